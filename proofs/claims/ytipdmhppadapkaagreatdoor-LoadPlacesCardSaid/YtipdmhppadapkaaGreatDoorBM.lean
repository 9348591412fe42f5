/-
  Parts: MaA MaB MaC MaD MaE MaF MaG MaH MaI MaJ MaK MaL MaN MaO MaP.
-/
import Derived.Test.YtipdmhppadapkaaGreatDoorBA
import Derived.Test.YtipdmhppadapkaaGreatDoorBB
import Derived.Deep.MidRow
import Derived.Maps.RangeWalk
import Derived.Test.YtipdmhppadapkaaGreatDoorBX
/-
  Spans: plain, and the walks of Good, Last, Has, Within of both.
-/
namespace Go.Proofs.YtipdmhppadapkaaGreatDoor
open Go.RowKit

/-- a span: where it begins, how long it is -/
structure Sp where
  base : Nat
  size : Nat
structure Sp.ok (s : Sp) : Prop where
  base : s.base < 18446744073709551616
  size : s.size < 18446744073709551616
def Sp.cells (s : Sp) : Array Value := #[.int .u64 (s.base : Int), .int .u64 (s.size : Int)]
def Sp.good (s : Sp) : Bool := decide (0 < s.size ∧ s.base + s.size ≤ 18446744073709551616)
def Sp.last (s : Sp) : Nat := if s.good then s.base + s.size - 1 else 0
def Sp.has (s : Sp) (a : Nat) : Bool := decide (0 < s.size ∧ s.base + s.size ≤ 18446744073709551616 ∧ s.base ≤ a ∧ a < s.base + s.size)
def Sp.within (s t : Sp) : Bool := decide (s.good = true ∧ t.good = true ∧ t.base ≤ s.base ∧ s.base + s.size ≤ t.base + t.size)
def Sp.pages (s : Sp) : Bool := decide (s.good = true ∧ s.base % 4096 = 0 ∧ s.size % 4096 = 0)
theorem Sp.good_iff {s : Sp} : s.good = true ↔ 0 < s.size ∧ s.base + s.size ≤ 18446744073709551616 := by simp [Sp.good]
theorem Sp.last_lt (s : Sp) (_h : s.ok) : s.last < 18446744073709551616 := by
  unfold Sp.last
  split
  · rename_i h; have := Sp.good_iff.1 h; omega
  · omega
theorem infSpan : (Tryz.prog.info? 61).map (·.size) = some 2 := by kernel_rfl
theorem sp_cells {w : World} {g : Nat} {s : Sp} (h : Blk w g 61 s.cells) : w.cell? ⟨g, 0, none⟩ = some (.int .u64 (s.base : Int)) ∧ w.cell? ⟨g, 1, none⟩ = some (.int .u64 (s.size : Int)) :=
  ⟨(h.cell 0).trans rfl, (h.cell 1).trans rfl⟩

def BoolRet (w : World) (b : Bool) (e : Ending) (w' : World) : Prop := e = .returned (.bool b) ∧ Below w.heap.size w w'
def NatRet (w : World) (x : Nat) (e : Ending) (w' : World) : Prop := e = .returned (.int .u64 (x : Int)) ∧ Below w.heap.size w w'

theorem ret_bool {a b : Bool} (h : a = b) : Ending.returned (.bool a) = .returned (.bool b) := by rw [h]
theorem ret_u64 {a : Int} {b : Nat} (h : a = (b : Int)) : Ending.returned (.int .u64 a) = .returned (.int .u64 (b : Int)) := by rw [h]

set_option maxRecDepth 100000 in
theorem good_any (s : Sp) (ok : s.ok) (w : World) : Calls Tryz.prog 98 #[.agg s.cells] w (BoolRet w s.good) := by
  have hb := Blk.new w 61 s.cells
  obtain ⟨c0, c1⟩ := sp_cells hb
  have B : Below w.heap.size w (w.alloc (.cells s.cells 61)) := (Below.refl _ _).alloc (Nat.le_refl _) _
  have k1 := ok.base
  have k2 := ok.size
  clear hb
  go_enter Tryz.func98, Tryz.ntmps98
  go_wp2
  all_goals
    go_ret
    refine ⟨ret_bool ?_, B⟩
    simp only [Sp.good, eq_comm (a := false), decide_eq_decide, decide_eq_false_iff_not]
    omega

set_option maxRecDepth 100000 in
theorem last_any (s : Sp) (ok : s.ok) (w : World) : Calls Tryz.prog 56 #[.agg s.cells] w (NatRet w s.last) := by
  have hb := Blk.new w 61 s.cells
  have hb2 : Hid (s.cells.size = 2) := Lib.hid rfl
  have B : Below w.heap.size w (w.alloc (.cells s.cells 61)) := (Below.refl _ _).alloc (Nat.le_refl _) _
  have k1 := ok.base
  have k2 := ok.size
  go_enter Tryz.func56, Tryz.ntmps56
  go_wp2_with ((with_reducible refine at_load 61 ?_); refine wpList_loadAll _ rfl 61 _ rfl w.heap.size 61 s.cells hb _ rfl Tryz.underlying61 rfl infSpan ?_)
  generalize w.alloc (.cells s.cells 61) = W at *
  refine (good_any s ok W).mono ?_
  rintro e W2 ⟨rfl, hB⟩
  obtain ⟨c0, c1⟩ := sp_cells (hb.below hB hb.lt)
  have B2 := B.trans (hB.mono B.size)
  clear hb B hB
  cases hg : s.good with
  | false =>
    go_wp2
    go_ret
    exact ⟨ret_u64 (by simp [Sp.last, hg]), B2⟩
  | true =>
    have hg2 := Sp.good_iff.1 hg
    have hl : Hid (s.last = s.base + s.size - 1) := Lib.hid (by simp [Sp.last, hg])
    go_wp2
    go_ret
    refine ⟨ret_u64 ?_, B2⟩
    rw [hl.out]; omega

set_option maxRecDepth 100000 in
theorem has_any (s : Sp) (ok : s.ok) (a : Nat) (_ha : a < 18446744073709551616) (w : World) : Calls Tryz.prog 134 #[.agg s.cells, .int .u64 (a : Int)] w (BoolRet w (s.has a)) := by
  have hb := Blk.new w 61 s.cells
  have B : Below w.heap.size w (w.alloc (.cells s.cells 61)) := (Below.refl _ _).alloc (Nat.le_refl _) _
  have k1 := ok.base
  have k2 := ok.size
  go_enter Tryz.func134, Tryz.ntmps134
  go_wp2_with ((with_reducible refine at_load 61 ?_); refine wpList_loadAll _ rfl 61 _ rfl w.heap.size 61 s.cells hb _ rfl Tryz.underlying61 rfl infSpan ?_)
  generalize w.alloc (.cells s.cells 61) = W at *
  refine (good_any s ok W).mono ?_
  rintro e W2 ⟨rfl, hB⟩
  have hb2 := hb.below hB hb.lt
  obtain ⟨c0, c1⟩ := sp_cells hb2
  have B2 := B.trans (hB.mono B.size)
  clear hb B hB
  cases hg : s.good with
  | false =>
    have hg2 : ¬ (0 < s.size ∧ s.base + s.size ≤ 18446744073709551616) := fun h => by rw [Sp.good_iff.2 h] at hg; cases hg
    have hx : Hid (s.has a = false) := Lib.hid (by simp only [Sp.has, decide_eq_false_iff_not]; omega)
    clear hg2 hg
    go_wp2
    go_ret
    refine ⟨ret_bool ?_, B2⟩
    rw [hx.out]
  | true =>
    have hg2 := Sp.good_iff.1 hg
    have hl : Hid (s.last = s.base + s.size - 1) := Lib.hid (by simp [Sp.last, hg])
    obtain ⟨L, hL⟩ : ∃ L, L = s.last := ⟨_, rfl⟩
    have HL := Lib.hid hL
    have hla := last_any s ok W2
    rw [← hL] at hla
    clear hL
    go_wp2_with (first
      | ((with_reducible refine at_load 61 ?_); refine wpList_loadAllW _ rfl 61 _ rfl w.heap.size 61 s.cells hb2 _ rfl Tryz.underlying61 rfl infSpan ?_))
    · refine hla.mono ?_
      rintro e W3 ⟨rfl, hB3⟩
      go_wp2
      go_ret
      refine ⟨ret_bool ?_, B2.trans (hB3.mono B2.size)⟩
      rw [HL.out, hl.out]
      simp only [Sp.has, decide_eq_decide]
      omega
    · go_ret
      refine ⟨ret_bool ?_, B2⟩
      simp only [Sp.has, eq_comm (a := false), decide_eq_false_iff_not]
      omega

/-! the reference's -/
set_option maxRecDepth 100000 in
theorem rgood_any (s : Sp) (ok : s.ok) (w : World) : Calls Tryz.prog 99 #[.agg s.cells] w (BoolRet w s.good) := by
  have hb := Blk.new w 61 s.cells
  obtain ⟨c0, c1⟩ := sp_cells hb
  have B : Below w.heap.size w (w.alloc (.cells s.cells 61)) := (Below.refl _ _).alloc (Nat.le_refl _) _
  have k1 := ok.base
  have k2 := ok.size
  clear hb
  go_enter Tryz.func99, Tryz.ntmps99
  go_wp2
  all_goals
    go_ret
    refine ⟨ret_bool ?_, B⟩
    simp only [Sp.good, eq_comm (a := false), decide_eq_decide, decide_eq_false_iff_not]
    omega

set_option maxRecDepth 100000 in
theorem rlast_any (s : Sp) (ok : s.ok) (w : World) : Calls Tryz.prog 59 #[.agg s.cells] w (NatRet w s.last) := by
  have hb := Blk.new w 61 s.cells
  have B : Below w.heap.size w (w.alloc (.cells s.cells 61)) := (Below.refl _ _).alloc (Nat.le_refl _) _
  have k1 := ok.base
  have k2 := ok.size
  go_enter Tryz.func59, Tryz.ntmps59
  go_wp2_with ((with_reducible refine at_load 61 ?_); refine wpList_loadAll _ rfl 61 _ rfl w.heap.size 61 s.cells hb _ rfl Tryz.underlying61 rfl infSpan ?_)
  generalize w.alloc (.cells s.cells 61) = W at *
  refine (rgood_any s ok W).mono ?_
  rintro e W2 ⟨rfl, hB⟩
  obtain ⟨c0, c1⟩ := sp_cells (hb.below hB hb.lt)
  have B2 := B.trans (hB.mono B.size)
  clear hb B hB
  cases hg : s.good with
  | false =>
    go_wp2
    go_ret
    exact ⟨ret_u64 (by simp [Sp.last, hg]), B2⟩
  | true =>
    have hg2 := Sp.good_iff.1 hg
    have hl : Hid (s.last = s.base + s.size - 1) := Lib.hid (by simp [Sp.last, hg])
    go_wp2
    go_ret
    refine ⟨ret_u64 ?_, B2⟩
    rw [hl.out]; omega

set_option maxRecDepth 100000 in
theorem rhas_any (s : Sp) (ok : s.ok) (a : Nat) (ha : a < 18446744073709551616) (w : World) : Calls Tryz.prog 102 #[.agg s.cells, .int .u64 (a : Int)] w (BoolRet w (s.has a)) := by
  have hb := Blk.new w 61 s.cells
  have B : Below w.heap.size w (w.alloc (.cells s.cells 61)) := (Below.refl _ _).alloc (Nat.le_refl _) _
  have k1 := ok.base
  have k2 := ok.size
  go_enter Tryz.func102, Tryz.ntmps102
  go_wp2_with ((with_reducible refine at_load 61 ?_); refine wpList_loadAll _ rfl 61 _ rfl w.heap.size 61 s.cells hb _ rfl Tryz.underlying61 rfl infSpan ?_)
  generalize w.alloc (.cells s.cells 61) = W at *
  refine (rgood_any s ok W).mono ?_
  rintro e W2 ⟨rfl, hB⟩
  have hb2 := hb.below hB hb.lt
  obtain ⟨c0, c1⟩ := sp_cells hb2
  have B2 := B.trans (hB.mono B.size)
  clear hb B hB
  cases hg : s.good with
  | false =>
    have hg2 : ¬ (0 < s.size ∧ s.base + s.size ≤ 18446744073709551616) := fun h => by rw [Sp.good_iff.2 h] at hg; cases hg
    have hx : Hid (s.has a = false) := Lib.hid (by simp only [Sp.has, decide_eq_false_iff_not]; omega)
    clear hg2 hg
    go_wp2
    go_ret
    refine ⟨ret_bool ?_, B2⟩
    rw [hx.out]
  | true =>
    have hg2 := Sp.good_iff.1 hg
    clear hg
    go_wp2
    all_goals
      go_ret
      refine ⟨ret_bool ?_, B2⟩
      simp only [Sp.has, eq_comm (a := false), decide_eq_decide, decide_eq_false_iff_not]
      omega
set_option maxRecDepth 100000 in
theorem rpages_any (s : Sp) (ok : s.ok) (w : World) : Calls Tryz.prog 58 #[.agg s.cells] w (BoolRet w s.pages) := by
  have hb := Blk.new w 61 s.cells
  have B : Below w.heap.size w (w.alloc (.cells s.cells 61)) := (Below.refl _ _).alloc (Nat.le_refl _) _
  have k1 := ok.base
  have k2 := ok.size
  go_enter Tryz.func58, Tryz.ntmps58
  go_wp2_with ((with_reducible refine at_load 61 ?_); refine wpList_loadAll _ rfl 61 _ rfl w.heap.size 61 s.cells hb _ rfl Tryz.underlying61 rfl infSpan ?_)
  generalize w.alloc (.cells s.cells 61) = W at *
  refine (rgood_any s ok W).mono ?_
  rintro e W2 ⟨rfl, hB⟩
  have hb2 := hb.below hB hb.lt
  obtain ⟨c0, c1⟩ := sp_cells hb2
  have B2 := B.trans (hB.mono B.size)
  clear hb B hB
  cases hg : s.good with
  | false =>
    have hx : Hid (s.pages = false) := Lib.hid (by simp [Sp.pages, hg])
    clear hg
    go_wp2
    go_ret
    refine ⟨ret_bool ?_, B2⟩
    rw [hx.out]
  | true =>
    have hx : Hid (s.pages = decide (s.base % 4096 = 0 ∧ s.size % 4096 = 0)) := Lib.hid (by simp [Sp.pages, hg])
    clear hg
    go_wp2
    all_goals
      go_ret
      refine ⟨ret_bool ?_, B2⟩
      rw [hx.out]
      rw [Bool.eq_iff_iff]
      simp only [beq_iff_eq, decide_eq_true_eq, Bool.false_eq_true, false_iff]
      omega
end Go.Proofs.YtipdmhppadapkaaGreatDoor
/-
  Walks: Within of both; span.Pages.
-/
namespace Go.Proofs.YtipdmhppadapkaaGreatDoor
open Go.RowKit

set_option maxRecDepth 100000 in
set_option maxHeartbeats 2000000 in
theorem within_any (s t : Sp) (ok : s.ok) (okt : t.ok) (w : World) : Calls Tryz.prog 100 #[.agg s.cells, .agg t.cells] w (BoolRet w (s.within t)) := by
  have hbS := (Blk.new w 61 s.cells).alloc (.cells t.cells 61)
  have hbT := Blk.new (w.alloc (.cells s.cells 61)) 61 t.cells
  rw [World.size_alloc] at hbT
  have B1 : Below w.heap.size w ((w.alloc (.cells s.cells 61)).alloc (.cells t.cells 61)) := ((Below.refl _ _).alloc (Nat.le_refl _) _).alloc (by simp) _
  have k1 := ok.base
  have k2 := ok.size
  have k3 := okt.base
  have k4 := okt.size
  cases hgs : s.good with
  | false =>
    have hx : Hid (s.within t = false) := Lib.hid (by simp [Sp.within, hgs])
    have hg : ∀ W, Calls Tryz.prog 98 #[.agg s.cells] W (BoolRet W false) := fun W => by have := good_any s ok W; rwa [hgs] at this
    clear hgs
    go_enter Tryz.func100, Tryz.ntmps100
    go_wp2_with fail
    generalize (w.alloc (.cells s.cells 61)).alloc (.cells t.cells 61) = W1 at *
    refine Flow.wp_region_flow (W1.heap.size) [] [] (by kernel_rfl) (by kernel_rfl) (Nat.le_refl _) (fun _ h => by cases h) Flow.facts_nil ?_
    refine Flow.pass_val (.agg s.cells) (Flow.met_none rfl) (fun a W hH => ?_) ?_
    · have e0 := Flow.see_old 2 hH.sees (by kernel_rfl) (by kernel_rfl) rfl
      exact reg_load 61 _ rfl e0 (hbS.drew.below hH.below hbS.lt) Tryz.underlying61 rfl infSpan
    refine Flow.pass_step (Reg.eqs (.bool false)) (fun _ _ => Flow.kept_eqs _ _) (Flow.met_none rfl) (fun a W hH => ?_) ?_
    · have e0 := Flow.see_new 5 0 hH.sees (by kernel_rfl) (by kernel_rfl) rfl rfl
      refine Reg.wp_call rfl Tryz.func98 rfl (by kernel_rfl) (by simp [Act.eval, e0]) (hg W) ?_
      rintro e w' ⟨rfl, hB⟩
      exact ⟨_, rfl, _, rfl, hB, rfl⟩
    refine Flow.pass_copy 6 1 (Flow.met_none rfl) (.inl rfl) (by kernel_rfl) (by kernel_rfl) rfl rfl (fun _ _ => Flow.kept_eqs _ _) ?_
    refine Flow.pass_skip (fun a W hH => Flow.not_wanted 2 true 7 hH rfl rfl (by kernel_rfl) (by kernel_rfl) rfl rfl) ?_
    refine Flow.pass_skip (fun a W hH => Flow.not_wanted 2 true 7 hH rfl rfl (by kernel_rfl) (by kernel_rfl) rfl rfl) ?_
    refine Flow.pass_skip (fun a W hH => Flow.not_wanted 2 true 7 hH rfl rfl (by kernel_rfl) (by kernel_rfl) rfl rfl) ?_
    refine Flow.pass_skip (fun a W hH => Flow.not_wanted 2 true 7 hH rfl rfl (by kernel_rfl) (by kernel_rfl) rfl rfl) ?_
    refine Flow.pass_val (.bool false) (Flow.met_none rfl) (fun a W hH => ?_) ?_
    · have e0 := Flow.see_new 7 2 hH.sees (by kernel_rfl) (by kernel_rfl) rfl rfl
      have e1 := Flow.see_new 11 6 hH.sees (by kernel_rfl) (by kernel_rfl) rfl rfl
      go_simp; first | done | rfl
    refine Flow.pass_copy 12 7 (Flow.met_none rfl) (.inl rfl) (by kernel_rfl) (by kernel_rfl) rfl rfl (fun _ _ => Flow.kept_eqs _ _) ?_
    refine Flow.pass_skip (fun a W hH => Flow.not_wanted 8 true 13 hH rfl rfl (by kernel_rfl) (by kernel_rfl) rfl rfl) ?_
    refine Flow.pass_skip (fun a W hH => Flow.not_wanted 8 true 13 hH rfl rfl (by kernel_rfl) (by kernel_rfl) rfl rfl) ?_
    refine Flow.pass_skip (fun a W hH => Flow.not_wanted 8 true 13 hH rfl rfl (by kernel_rfl) (by kernel_rfl) rfl rfl) ?_
    refine Flow.pass_skip (fun a W hH => Flow.not_wanted 8 true 13 hH rfl rfl (by kernel_rfl) (by kernel_rfl) rfl rfl) ?_
    refine Flow.pass_val (.bool false) (Flow.met_none rfl) (fun a W hH => ?_) ?_
    · have e0 := Flow.see_new 13 8 hH.sees (by kernel_rfl) (by kernel_rfl) rfl rfl
      have e1 := Flow.see_new 17 12 hH.sees (by kernel_rfl) (by kernel_rfl) rfl rfl
      go_simp; first | done | rfl
    refine Flow.pass_copy 18 13 (Flow.met_none rfl) (.inr rfl) (by kernel_rfl) (by kernel_rfl) rfl rfl (fun _ _ => Flow.kept_eqs _ _) ?_
    refine Flow.pass_end [none, none, none, none, some 4, some 5, some 6, some 7, some 8, some 9, some 10, some 11, some 12, some 13, some 14, some 15, some 16, some 17, some 18] (by kernel_rfl) ?_
    intro f gg w9 hB hfa hT hfg
    have h4 : f 4 = _ := (hfg 4 14 (by kernel_rfl)).trans (hT 14 _ (by kernel_rfl) rfl)
    simp only [Reg.sel, h4]
    have B9 := B1.drew.trans (hB.mono B1.size)
    clear hT hfg hfa h4
    go_wp2
    go_ret
    refine ⟨ret_bool ?_, B9⟩
    rw [hx.out]
  | true =>
    have hg : ∀ W, Calls Tryz.prog 98 #[.agg s.cells] W (BoolRet W true) := fun W => by have := good_any s ok W; rwa [hgs] at this
    have q1 := Sp.good_iff.1 hgs
    cases hh : t.has s.base with
    | false =>
      have hx : Hid (s.within t = false) := Lib.hid (by
        simp only [Sp.has, decide_eq_false_iff_not] at hh
        simp only [Sp.within, decide_eq_false_iff_not, Sp.good_iff]; omega)
      have hh1 : ∀ W, Calls Tryz.prog 134 #[.agg t.cells, .int .u64 (s.base : Int)] W (BoolRet W false) := fun W => by have := has_any t okt s.base k1 W; rwa [hh] at this
      clear hgs hh
      go_enter Tryz.func100, Tryz.ntmps100
      go_wp2_with fail
      generalize (w.alloc (.cells s.cells 61)).alloc (.cells t.cells 61) = W1 at *
      refine Flow.wp_region_flow (W1.heap.size) [] [] (by kernel_rfl) (by kernel_rfl) (Nat.le_refl _) (fun _ h => by cases h) Flow.facts_nil ?_
      refine Flow.pass_val (.agg s.cells) (Flow.met_none rfl) (fun a W hH => ?_) ?_
      · have e0 := Flow.see_old 2 hH.sees (by kernel_rfl) (by kernel_rfl) rfl
        exact reg_load 61 _ rfl e0 (hbS.drew.below hH.below hbS.lt) Tryz.underlying61 rfl infSpan
      refine Flow.pass_step (Reg.eqs (.bool true)) (fun _ _ => Flow.kept_eqs _ _) (Flow.met_none rfl) (fun a W hH => ?_) ?_
      · have e0 := Flow.see_new 5 0 hH.sees (by kernel_rfl) (by kernel_rfl) rfl rfl
        refine Reg.wp_call rfl Tryz.func98 rfl (by kernel_rfl) (by simp [Act.eval, e0]) (hg W) ?_
        rintro e w' ⟨rfl, hB⟩
        exact ⟨_, rfl, _, rfl, hB, rfl⟩
      refine Flow.pass_copy 6 1 (Flow.met_none rfl) (.inl rfl) (by kernel_rfl) (by kernel_rfl) rfl rfl (fun _ _ => Flow.kept_eqs _ _) ?_
      refine Flow.pass_val (.agg t.cells) (Flow.met_some 2 true 7 rfl rfl (by kernel_rfl) (by kernel_rfl) rfl rfl) (fun a W hH => ?_) ?_
      · have e0 := Flow.see_old 3 hH.sees (by kernel_rfl) (by kernel_rfl) rfl
        exact reg_load 61 _ rfl e0 (hbT.drew.below hH.below hbT.lt) Tryz.underlying61 rfl infSpan
      refine Flow.pass_val (.pointer (some ⟨w.heap.size, 0, none⟩)) (Flow.met_some 2 true 7 rfl rfl (by kernel_rfl) (by kernel_rfl) rfl rfl) (fun a W hH => ?_) ?_
      · have e0 := Flow.see_old 2 hH.sees (by kernel_rfl) (by kernel_rfl) rfl
        go_simp; first | done | rfl
      refine Flow.pass_val (.int .u64 (s.base : Int)) (Flow.met_some 2 true 7 rfl rfl (by kernel_rfl) (by kernel_rfl) rfl rfl) (fun a W hH => ?_) ?_
      · have e0 := Flow.see_new 9 4 hH.sees (by kernel_rfl) (by kernel_rfl) rfl rfl
        have cc := (sp_cells (hbS.drew.below hH.below hbS.lt)).1; go_simp
      refine Flow.pass_step (Reg.eqs (.bool false)) (fun _ _ => Flow.kept_eqs _ _) (Flow.met_some 2 true 7 rfl rfl (by kernel_rfl) (by kernel_rfl) rfl rfl) (fun a W hH => ?_) ?_
      · have e0 := Flow.see_new 8 3 hH.sees (by kernel_rfl) (by kernel_rfl) rfl rfl
        have e1 := Flow.see_new 10 5 hH.sees (by kernel_rfl) (by kernel_rfl) rfl rfl
        refine Reg.wp_call rfl Tryz.func134 rfl (by kernel_rfl) (by simp [Act.eval, e0, e1]) (hh1 W) ?_
        rintro e w' ⟨rfl, hB⟩
        exact ⟨_, rfl, _, rfl, hB, rfl⟩
      refine Flow.pass_val (.bool false) (Flow.met_none rfl) (fun a W hH => ?_) ?_
      · have e0 := Flow.see_new 7 2 hH.sees (by kernel_rfl) (by kernel_rfl) rfl rfl
        have e1 := Flow.see_new 11 6 hH.sees (by kernel_rfl) (by kernel_rfl) rfl rfl
        go_simp; first | done | rfl
      refine Flow.pass_copy 12 7 (Flow.met_none rfl) (.inl rfl) (by kernel_rfl) (by kernel_rfl) rfl rfl (fun _ _ => Flow.kept_eqs _ _) ?_
      refine Flow.pass_skip (fun a W hH => Flow.not_wanted 8 true 13 hH rfl rfl (by kernel_rfl) (by kernel_rfl) rfl rfl) ?_
      refine Flow.pass_skip (fun a W hH => Flow.not_wanted 8 true 13 hH rfl rfl (by kernel_rfl) (by kernel_rfl) rfl rfl) ?_
      refine Flow.pass_skip (fun a W hH => Flow.not_wanted 8 true 13 hH rfl rfl (by kernel_rfl) (by kernel_rfl) rfl rfl) ?_
      refine Flow.pass_skip (fun a W hH => Flow.not_wanted 8 true 13 hH rfl rfl (by kernel_rfl) (by kernel_rfl) rfl rfl) ?_
      refine Flow.pass_val (.bool false) (Flow.met_none rfl) (fun a W hH => ?_) ?_
      · have e0 := Flow.see_new 13 8 hH.sees (by kernel_rfl) (by kernel_rfl) rfl rfl
        have e1 := Flow.see_new 17 12 hH.sees (by kernel_rfl) (by kernel_rfl) rfl rfl
        go_simp; first | done | rfl
      refine Flow.pass_copy 18 13 (Flow.met_none rfl) (.inr rfl) (by kernel_rfl) (by kernel_rfl) rfl rfl (fun _ _ => Flow.kept_eqs _ _) ?_
      refine Flow.pass_end [none, none, none, none, some 4, some 5, some 6, some 7, some 8, some 9, some 10, some 11, some 12, some 13, some 14, some 15, some 16, some 17, some 18] (by kernel_rfl) ?_
      intro f gg w9 hB hfa hT hfg
      have h4 : f 4 = _ := (hfg 4 14 (by kernel_rfl)).trans (hT 14 _ (by kernel_rfl) rfl)
      simp only [Reg.sel, h4]
      have B9 := B1.drew.trans (hB.mono B1.size)
      clear hT hfg hfa h4
      go_wp2
      go_ret
      refine ⟨ret_bool ?_, B9⟩
      rw [hx.out]
    | true =>
      have hh1 : ∀ W, Calls Tryz.prog 134 #[.agg t.cells, .int .u64 (s.base : Int)] W (BoolRet W true) := fun W => by have := has_any t okt s.base k1 W; rwa [hh] at this
      obtain ⟨L, hL⟩ : ∃ L, L = s.last := ⟨_, rfl⟩
      obtain ⟨H, hH'⟩ : ∃ H, H = t.has L := ⟨_, rfl⟩
      have hlt : L < 18446744073709551616 := by rw [hL]; exact s.last_lt ok
      have hx : Hid (s.within t = H) := Lib.hid (by
        have e1 : s.last = s.base + s.size - 1 := by simp [Sp.last, hgs]
        rw [hH', hL, e1]
        simp only [Sp.has, decide_eq_true_eq] at hh
        simp only [Sp.within, Sp.has, decide_eq_decide, Sp.good_iff]; omega)
      have hl : ∀ W, Calls Tryz.prog 56 #[.agg s.cells] W (NatRet W L) := fun W => by have := last_any s ok W; rwa [← hL] at this
      have hh2 : ∀ W, Calls Tryz.prog 134 #[.agg t.cells, .int .u64 (L : Int)] W (BoolRet W H) := fun W => by have := has_any t okt L hlt W; rwa [← hH'] at this
      clear hgs hh hL hH'
      go_enter Tryz.func100, Tryz.ntmps100
      go_wp2_with fail
      generalize (w.alloc (.cells s.cells 61)).alloc (.cells t.cells 61) = W1 at *
      refine Flow.wp_region_flow (W1.heap.size) [] [] (by kernel_rfl) (by kernel_rfl) (Nat.le_refl _) (fun _ h => by cases h) Flow.facts_nil ?_
      refine Flow.pass_val (.agg s.cells) (Flow.met_none rfl) (fun a W hH => ?_) ?_
      · have e0 := Flow.see_old 2 hH.sees (by kernel_rfl) (by kernel_rfl) rfl
        exact reg_load 61 _ rfl e0 (hbS.drew.below hH.below hbS.lt) Tryz.underlying61 rfl infSpan
      refine Flow.pass_step (Reg.eqs (.bool true)) (fun _ _ => Flow.kept_eqs _ _) (Flow.met_none rfl) (fun a W hH => ?_) ?_
      · have e0 := Flow.see_new 5 0 hH.sees (by kernel_rfl) (by kernel_rfl) rfl rfl
        refine Reg.wp_call rfl Tryz.func98 rfl (by kernel_rfl) (by simp [Act.eval, e0]) (hg W) ?_
        rintro e w' ⟨rfl, hB⟩
        exact ⟨_, rfl, _, rfl, hB, rfl⟩
      refine Flow.pass_copy 6 1 (Flow.met_none rfl) (.inl rfl) (by kernel_rfl) (by kernel_rfl) rfl rfl (fun _ _ => Flow.kept_eqs _ _) ?_
      refine Flow.pass_val (.agg t.cells) (Flow.met_some 2 true 7 rfl rfl (by kernel_rfl) (by kernel_rfl) rfl rfl) (fun a W hH => ?_) ?_
      · have e0 := Flow.see_old 3 hH.sees (by kernel_rfl) (by kernel_rfl) rfl
        exact reg_load 61 _ rfl e0 (hbT.drew.below hH.below hbT.lt) Tryz.underlying61 rfl infSpan
      refine Flow.pass_val (.pointer (some ⟨w.heap.size, 0, none⟩)) (Flow.met_some 2 true 7 rfl rfl (by kernel_rfl) (by kernel_rfl) rfl rfl) (fun a W hH => ?_) ?_
      · have e0 := Flow.see_old 2 hH.sees (by kernel_rfl) (by kernel_rfl) rfl
        go_simp; first | done | rfl
      refine Flow.pass_val (.int .u64 (s.base : Int)) (Flow.met_some 2 true 7 rfl rfl (by kernel_rfl) (by kernel_rfl) rfl rfl) (fun a W hH => ?_) ?_
      · have e0 := Flow.see_new 9 4 hH.sees (by kernel_rfl) (by kernel_rfl) rfl rfl
        have cc := (sp_cells (hbS.drew.below hH.below hbS.lt)).1; go_simp
      refine Flow.pass_step (Reg.eqs (.bool true)) (fun _ _ => Flow.kept_eqs _ _) (Flow.met_some 2 true 7 rfl rfl (by kernel_rfl) (by kernel_rfl) rfl rfl) (fun a W hH => ?_) ?_
      · have e0 := Flow.see_new 8 3 hH.sees (by kernel_rfl) (by kernel_rfl) rfl rfl
        have e1 := Flow.see_new 10 5 hH.sees (by kernel_rfl) (by kernel_rfl) rfl rfl
        refine Reg.wp_call rfl Tryz.func134 rfl (by kernel_rfl) (by simp [Act.eval, e0, e1]) (hh1 W) ?_
        rintro e w' ⟨rfl, hB⟩
        exact ⟨_, rfl, _, rfl, hB, rfl⟩
      refine Flow.pass_val (.bool true) (Flow.met_none rfl) (fun a W hH => ?_) ?_
      · have e0 := Flow.see_new 7 2 hH.sees (by kernel_rfl) (by kernel_rfl) rfl rfl
        have e1 := Flow.see_new 11 6 hH.sees (by kernel_rfl) (by kernel_rfl) rfl rfl
        go_simp; first | done | rfl
      refine Flow.pass_copy 12 7 (Flow.met_none rfl) (.inl rfl) (by kernel_rfl) (by kernel_rfl) rfl rfl (fun _ _ => Flow.kept_eqs _ _) ?_
      refine Flow.pass_val (.agg t.cells) (Flow.met_some 8 true 13 rfl rfl (by kernel_rfl) (by kernel_rfl) rfl rfl) (fun a W hH => ?_) ?_
      · have e0 := Flow.see_old 3 hH.sees (by kernel_rfl) (by kernel_rfl) rfl
        exact reg_load 61 _ rfl e0 (hbT.drew.below hH.below hbT.lt) Tryz.underlying61 rfl infSpan
      refine Flow.pass_val (.agg s.cells) (Flow.met_some 8 true 13 rfl rfl (by kernel_rfl) (by kernel_rfl) rfl rfl) (fun a W hH => ?_) ?_
      · have e0 := Flow.see_old 2 hH.sees (by kernel_rfl) (by kernel_rfl) rfl
        exact reg_load 61 _ rfl e0 (hbS.drew.below hH.below hbS.lt) Tryz.underlying61 rfl infSpan
      refine Flow.pass_step (Reg.eqs (.int .u64 (L : Int))) (fun _ _ => Flow.kept_eqs _ _) (Flow.met_some 8 true 13 rfl rfl (by kernel_rfl) (by kernel_rfl) rfl rfl) (fun a W hH => ?_) ?_
      · have e0 := Flow.see_new 15 10 hH.sees (by kernel_rfl) (by kernel_rfl) rfl rfl
        refine Reg.wp_call rfl Tryz.func56 rfl (by kernel_rfl) (by simp [Act.eval, e0]) (hl W) ?_
        rintro e w' ⟨rfl, hB⟩
        exact ⟨_, rfl, _, rfl, hB, rfl⟩
      refine Flow.pass_step (Reg.eqs (.bool H)) (fun _ _ => Flow.kept_eqs _ _) (Flow.met_some 8 true 13 rfl rfl (by kernel_rfl) (by kernel_rfl) rfl rfl) (fun a W hH => ?_) ?_
      · have e0 := Flow.see_new 14 9 hH.sees (by kernel_rfl) (by kernel_rfl) rfl rfl
        have e1 := Flow.see_new 16 11 hH.sees (by kernel_rfl) (by kernel_rfl) rfl rfl
        refine Reg.wp_call rfl Tryz.func134 rfl (by kernel_rfl) (by simp [Act.eval, e0, e1]) (hh2 W) ?_
        rintro e w' ⟨rfl, hB⟩
        exact ⟨_, rfl, _, rfl, hB, rfl⟩
      refine Flow.pass_val (.bool H) (Flow.met_none rfl) (fun a W hH => ?_) ?_
      · have e0 := Flow.see_new 13 8 hH.sees (by kernel_rfl) (by kernel_rfl) rfl rfl
        have e1 := Flow.see_new 17 12 hH.sees (by kernel_rfl) (by kernel_rfl) rfl rfl
        go_simp; first | done | rfl
      refine Flow.pass_copy 18 13 (Flow.met_none rfl) (.inr rfl) (by kernel_rfl) (by kernel_rfl) rfl rfl (fun _ _ => Flow.kept_eqs _ _) ?_
      refine Flow.pass_end [none, none, none, none, some 4, some 5, some 6, some 7, some 8, some 9, some 10, some 11, some 12, some 13, some 14, some 15, some 16, some 17, some 18] (by kernel_rfl) ?_
      intro f gg w9 hB hfa hT hfg
      have h4 : f 4 = _ := (hfg 4 14 (by kernel_rfl)).trans (hT 14 _ (by kernel_rfl) rfl)
      simp only [Reg.sel, h4]
      have B9 := B1.drew.trans (hB.mono B1.size)
      clear hT hfg hfa h4
      go_wp2
      go_ret
      refine ⟨ret_bool ?_, B9⟩
      rw [hx.out]

set_option maxRecDepth 100000 in
set_option maxHeartbeats 2000000 in
theorem rwithin_any (s t : Sp) (ok : s.ok) (okt : t.ok) (w : World) : Calls Tryz.prog 101 #[.agg s.cells, .agg t.cells] w (BoolRet w (s.within t)) := by
  have hbS := (Blk.new w 61 s.cells).alloc (.cells t.cells 61)
  have hbT := Blk.new (w.alloc (.cells s.cells 61)) 61 t.cells
  rw [World.size_alloc] at hbT
  have B1 : Below w.heap.size w ((w.alloc (.cells s.cells 61)).alloc (.cells t.cells 61)) := ((Below.refl _ _).alloc (Nat.le_refl _) _).alloc (by simp) _
  have k1 := ok.base
  have k2 := ok.size
  have k3 := okt.base
  have k4 := okt.size
  cases hgs : s.good with
  | false =>
    have hx : Hid (s.within t = false) := Lib.hid (by simp [Sp.within, hgs])
    have hg : ∀ W, Calls Tryz.prog 99 #[.agg s.cells] W (BoolRet W false) := fun W => by have := rgood_any s ok W; rwa [hgs] at this
    clear hgs
    go_enter Tryz.func101, Tryz.ntmps101
    go_wp2_with fail
    generalize (w.alloc (.cells s.cells 61)).alloc (.cells t.cells 61) = W1 at *
    refine Flow.wp_region_flow (W1.heap.size) [] [] (by kernel_rfl) (by kernel_rfl) (Nat.le_refl _) (fun _ h => by cases h) Flow.facts_nil ?_
    refine Flow.pass_val (.agg s.cells) (Flow.met_none rfl) (fun a W hH => ?_) ?_
    · have e0 := Flow.see_old 2 hH.sees (by kernel_rfl) (by kernel_rfl) rfl
      exact reg_load 61 _ rfl e0 (hbS.drew.below hH.below hbS.lt) Tryz.underlying61 rfl infSpan
    refine Flow.pass_step (Reg.eqs (.bool false)) (fun _ _ => Flow.kept_eqs _ _) (Flow.met_none rfl) (fun a W hH => ?_) ?_
    · have e0 := Flow.see_new 5 0 hH.sees (by kernel_rfl) (by kernel_rfl) rfl rfl
      refine Reg.wp_call rfl Tryz.func99 rfl (by kernel_rfl) (by simp [Act.eval, e0]) (hg W) ?_
      rintro e w' ⟨rfl, hB⟩
      exact ⟨_, rfl, _, rfl, hB, rfl⟩
    refine Flow.pass_copy 6 1 (Flow.met_none rfl) (.inl rfl) (by kernel_rfl) (by kernel_rfl) rfl rfl (fun _ _ => Flow.kept_eqs _ _) ?_
    refine Flow.pass_skip (fun a W hH => Flow.not_wanted 2 true 7 hH rfl rfl (by kernel_rfl) (by kernel_rfl) rfl rfl) ?_
    refine Flow.pass_skip (fun a W hH => Flow.not_wanted 2 true 7 hH rfl rfl (by kernel_rfl) (by kernel_rfl) rfl rfl) ?_
    refine Flow.pass_val (.bool false) (Flow.met_none rfl) (fun a W hH => ?_) ?_
    · have e0 := Flow.see_new 7 2 hH.sees (by kernel_rfl) (by kernel_rfl) rfl rfl
      have e1 := Flow.see_new 9 4 hH.sees (by kernel_rfl) (by kernel_rfl) rfl rfl
      go_simp; first | done | rfl
    refine Flow.pass_copy 10 5 (Flow.met_none rfl) (.inl rfl) (by kernel_rfl) (by kernel_rfl) rfl rfl (fun _ _ => Flow.kept_eqs _ _) ?_
    refine Flow.pass_skip (fun a W hH => Flow.not_wanted 6 true 11 hH rfl rfl (by kernel_rfl) (by kernel_rfl) rfl rfl) ?_
    refine Flow.pass_skip (fun a W hH => Flow.not_wanted 6 true 11 hH rfl rfl (by kernel_rfl) (by kernel_rfl) rfl rfl) ?_
    refine Flow.pass_skip (fun a W hH => Flow.not_wanted 6 true 11 hH rfl rfl (by kernel_rfl) (by kernel_rfl) rfl rfl) ?_
    refine Flow.pass_skip (fun a W hH => Flow.not_wanted 6 true 11 hH rfl rfl (by kernel_rfl) (by kernel_rfl) rfl rfl) ?_
    refine Flow.pass_skip (fun a W hH => Flow.not_wanted 6 true 11 hH rfl rfl (by kernel_rfl) (by kernel_rfl) rfl rfl) ?_
    refine Flow.pass_val (.bool false) (Flow.met_none rfl) (fun a W hH => ?_) ?_
    · have e0 := Flow.see_new 11 6 hH.sees (by kernel_rfl) (by kernel_rfl) rfl rfl
      have e1 := Flow.see_new 16 11 hH.sees (by kernel_rfl) (by kernel_rfl) rfl rfl
      go_simp; first | done | rfl
    refine Flow.pass_copy 17 12 (Flow.met_none rfl) (.inl rfl) (by kernel_rfl) (by kernel_rfl) rfl rfl (fun _ _ => Flow.kept_eqs _ _) ?_
    refine Flow.pass_skip (fun a W hH => Flow.not_wanted 13 true 18 hH rfl rfl (by kernel_rfl) (by kernel_rfl) rfl rfl) ?_
    refine Flow.pass_skip (fun a W hH => Flow.not_wanted 13 true 18 hH rfl rfl (by kernel_rfl) (by kernel_rfl) rfl rfl) ?_
    refine Flow.pass_skip (fun a W hH => Flow.not_wanted 13 true 18 hH rfl rfl (by kernel_rfl) (by kernel_rfl) rfl rfl) ?_
    refine Flow.pass_skip (fun a W hH => Flow.not_wanted 13 true 18 hH rfl rfl (by kernel_rfl) (by kernel_rfl) rfl rfl) ?_
    refine Flow.pass_skip (fun a W hH => Flow.not_wanted 13 true 18 hH rfl rfl (by kernel_rfl) (by kernel_rfl) rfl rfl) ?_
    refine Flow.pass_val (.bool false) (Flow.met_none rfl) (fun a W hH => ?_) ?_
    · have e0 := Flow.see_new 18 13 hH.sees (by kernel_rfl) (by kernel_rfl) rfl rfl
      have e1 := Flow.see_new 23 18 hH.sees (by kernel_rfl) (by kernel_rfl) rfl rfl
      go_simp; first | done | rfl
    refine Flow.pass_copy 24 19 (Flow.met_none rfl) (.inr rfl) (by kernel_rfl) (by kernel_rfl) rfl rfl (fun _ _ => Flow.kept_eqs _ _) ?_
    refine Flow.pass_end [none, none, none, none, some 4, some 5, some 6, some 7, some 8, some 9, some 10, some 11, some 12, some 13, some 14, some 15, some 16, some 17, some 18, some 19, some 20, some 21, some 22, some 23, some 24] (by kernel_rfl) ?_
    intro f gg w9 hB hfa hT hfg
    have h4 : f 4 = _ := (hfg 4 20 (by kernel_rfl)).trans (hT 20 _ (by kernel_rfl) rfl)
    simp only [Reg.sel, h4]
    have B9 := B1.drew.trans (hB.mono B1.size)
    clear hT hfg hfa h4
    go_wp2
    go_ret
    refine ⟨ret_bool ?_, B9⟩
    rw [hx.out]
  | true =>
    have hg : ∀ W, Calls Tryz.prog 99 #[.agg s.cells] W (BoolRet W true) := fun W => by have := rgood_any s ok W; rwa [hgs] at this
    have q1 := Sp.good_iff.1 hgs
    cases hgt : t.good with
    | false =>
      have hx : Hid (s.within t = false) := Lib.hid (by simp [Sp.within, hgt])
      have hgT : ∀ W, Calls Tryz.prog 99 #[.agg t.cells] W (BoolRet W false) := fun W => by have := rgood_any t okt W; rwa [hgt] at this
      clear hgs hgt
      go_enter Tryz.func101, Tryz.ntmps101
      go_wp2_with fail
      generalize (w.alloc (.cells s.cells 61)).alloc (.cells t.cells 61) = W1 at *
      refine Flow.wp_region_flow (W1.heap.size) [] [] (by kernel_rfl) (by kernel_rfl) (Nat.le_refl _) (fun _ h => by cases h) Flow.facts_nil ?_
      refine Flow.pass_val (.agg s.cells) (Flow.met_none rfl) (fun a W hH => ?_) ?_
      · have e0 := Flow.see_old 2 hH.sees (by kernel_rfl) (by kernel_rfl) rfl
        exact reg_load 61 _ rfl e0 (hbS.drew.below hH.below hbS.lt) Tryz.underlying61 rfl infSpan
      refine Flow.pass_step (Reg.eqs (.bool true)) (fun _ _ => Flow.kept_eqs _ _) (Flow.met_none rfl) (fun a W hH => ?_) ?_
      · have e0 := Flow.see_new 5 0 hH.sees (by kernel_rfl) (by kernel_rfl) rfl rfl
        refine Reg.wp_call rfl Tryz.func99 rfl (by kernel_rfl) (by simp [Act.eval, e0]) (hg W) ?_
        rintro e w' ⟨rfl, hB⟩
        exact ⟨_, rfl, _, rfl, hB, rfl⟩
      refine Flow.pass_copy 6 1 (Flow.met_none rfl) (.inl rfl) (by kernel_rfl) (by kernel_rfl) rfl rfl (fun _ _ => Flow.kept_eqs _ _) ?_
      refine Flow.pass_val (.agg t.cells) (Flow.met_some 2 true 7 rfl rfl (by kernel_rfl) (by kernel_rfl) rfl rfl) (fun a W hH => ?_) ?_
      · have e0 := Flow.see_old 3 hH.sees (by kernel_rfl) (by kernel_rfl) rfl
        exact reg_load 61 _ rfl e0 (hbT.drew.below hH.below hbT.lt) Tryz.underlying61 rfl infSpan
      refine Flow.pass_step (Reg.eqs (.bool false)) (fun _ _ => Flow.kept_eqs _ _) (Flow.met_some 2 true 7 rfl rfl (by kernel_rfl) (by kernel_rfl) rfl rfl) (fun a W hH => ?_) ?_
      · have e0 := Flow.see_new 8 3 hH.sees (by kernel_rfl) (by kernel_rfl) rfl rfl
        refine Reg.wp_call rfl Tryz.func99 rfl (by kernel_rfl) (by simp [Act.eval, e0]) (hgT W) ?_
        rintro e w' ⟨rfl, hB⟩
        exact ⟨_, rfl, _, rfl, hB, rfl⟩
      refine Flow.pass_val (.bool false) (Flow.met_none rfl) (fun a W hH => ?_) ?_
      · have e0 := Flow.see_new 7 2 hH.sees (by kernel_rfl) (by kernel_rfl) rfl rfl
        have e1 := Flow.see_new 9 4 hH.sees (by kernel_rfl) (by kernel_rfl) rfl rfl
        go_simp; first | done | rfl
      refine Flow.pass_copy 10 5 (Flow.met_none rfl) (.inl rfl) (by kernel_rfl) (by kernel_rfl) rfl rfl (fun _ _ => Flow.kept_eqs _ _) ?_
      refine Flow.pass_skip (fun a W hH => Flow.not_wanted 6 true 11 hH rfl rfl (by kernel_rfl) (by kernel_rfl) rfl rfl) ?_
      refine Flow.pass_skip (fun a W hH => Flow.not_wanted 6 true 11 hH rfl rfl (by kernel_rfl) (by kernel_rfl) rfl rfl) ?_
      refine Flow.pass_skip (fun a W hH => Flow.not_wanted 6 true 11 hH rfl rfl (by kernel_rfl) (by kernel_rfl) rfl rfl) ?_
      refine Flow.pass_skip (fun a W hH => Flow.not_wanted 6 true 11 hH rfl rfl (by kernel_rfl) (by kernel_rfl) rfl rfl) ?_
      refine Flow.pass_skip (fun a W hH => Flow.not_wanted 6 true 11 hH rfl rfl (by kernel_rfl) (by kernel_rfl) rfl rfl) ?_
      refine Flow.pass_val (.bool false) (Flow.met_none rfl) (fun a W hH => ?_) ?_
      · have e0 := Flow.see_new 11 6 hH.sees (by kernel_rfl) (by kernel_rfl) rfl rfl
        have e1 := Flow.see_new 16 11 hH.sees (by kernel_rfl) (by kernel_rfl) rfl rfl
        go_simp; first | done | rfl
      refine Flow.pass_copy 17 12 (Flow.met_none rfl) (.inl rfl) (by kernel_rfl) (by kernel_rfl) rfl rfl (fun _ _ => Flow.kept_eqs _ _) ?_
      refine Flow.pass_skip (fun a W hH => Flow.not_wanted 13 true 18 hH rfl rfl (by kernel_rfl) (by kernel_rfl) rfl rfl) ?_
      refine Flow.pass_skip (fun a W hH => Flow.not_wanted 13 true 18 hH rfl rfl (by kernel_rfl) (by kernel_rfl) rfl rfl) ?_
      refine Flow.pass_skip (fun a W hH => Flow.not_wanted 13 true 18 hH rfl rfl (by kernel_rfl) (by kernel_rfl) rfl rfl) ?_
      refine Flow.pass_skip (fun a W hH => Flow.not_wanted 13 true 18 hH rfl rfl (by kernel_rfl) (by kernel_rfl) rfl rfl) ?_
      refine Flow.pass_skip (fun a W hH => Flow.not_wanted 13 true 18 hH rfl rfl (by kernel_rfl) (by kernel_rfl) rfl rfl) ?_
      refine Flow.pass_val (.bool false) (Flow.met_none rfl) (fun a W hH => ?_) ?_
      · have e0 := Flow.see_new 18 13 hH.sees (by kernel_rfl) (by kernel_rfl) rfl rfl
        have e1 := Flow.see_new 23 18 hH.sees (by kernel_rfl) (by kernel_rfl) rfl rfl
        go_simp; first | done | rfl
      refine Flow.pass_copy 24 19 (Flow.met_none rfl) (.inr rfl) (by kernel_rfl) (by kernel_rfl) rfl rfl (fun _ _ => Flow.kept_eqs _ _) ?_
      refine Flow.pass_end [none, none, none, none, some 4, some 5, some 6, some 7, some 8, some 9, some 10, some 11, some 12, some 13, some 14, some 15, some 16, some 17, some 18, some 19, some 20, some 21, some 22, some 23, some 24] (by kernel_rfl) ?_
      intro f gg w9 hB hfa hT hfg
      have h4 : f 4 = _ := (hfg 4 20 (by kernel_rfl)).trans (hT 20 _ (by kernel_rfl) rfl)
      simp only [Reg.sel, h4]
      have B9 := B1.drew.trans (hB.mono B1.size)
      clear hT hfg hfa h4
      go_wp2
      go_ret
      refine ⟨ret_bool ?_, B9⟩
      rw [hx.out]
    | true =>
      have hgT : ∀ W, Calls Tryz.prog 99 #[.agg t.cells] W (BoolRet W true) := fun W => by have := rgood_any t okt W; rwa [hgt] at this
      have q2 := Sp.good_iff.1 hgt
      by_cases hle : t.base ≤ s.base
      · obtain ⟨L1, hL1⟩ : ∃ L, L = s.last := ⟨_, rfl⟩
        obtain ⟨L2, hL2⟩ : ∃ L, L = t.last := ⟨_, rfl⟩
        have hx : Hid (s.within t = decide ((L1 : Int) ≤ (L2 : Int))) := Lib.hid (by
          have e1 : s.last = s.base + s.size - 1 := by simp [Sp.last, hgs]
          have e2 : t.last = t.base + t.size - 1 := by simp [Sp.last, hgt]
          rw [hL1, hL2, e1, e2]
          simp only [Sp.within, decide_eq_decide, Sp.good_iff]; omega)
        have hl1 : ∀ W, Calls Tryz.prog 59 #[.agg s.cells] W (NatRet W L1) := fun W => by have := rlast_any s ok W; rwa [← hL1] at this
        have hl2 : ∀ W, Calls Tryz.prog 59 #[.agg t.cells] W (NatRet W L2) := fun W => by have := rlast_any t okt W; rwa [← hL2] at this
        clear hgs hgt hL1 hL2
        go_enter Tryz.func101, Tryz.ntmps101
        go_wp2_with fail
        generalize (w.alloc (.cells s.cells 61)).alloc (.cells t.cells 61) = W1 at *
        refine Flow.wp_region_flow (W1.heap.size) [] [] (by kernel_rfl) (by kernel_rfl) (Nat.le_refl _) (fun _ h => by cases h) Flow.facts_nil ?_
        refine Flow.pass_val (.agg s.cells) (Flow.met_none rfl) (fun a W hH => ?_) ?_
        · have e0 := Flow.see_old 2 hH.sees (by kernel_rfl) (by kernel_rfl) rfl
          exact reg_load 61 _ rfl e0 (hbS.drew.below hH.below hbS.lt) Tryz.underlying61 rfl infSpan
        refine Flow.pass_step (Reg.eqs (.bool true)) (fun _ _ => Flow.kept_eqs _ _) (Flow.met_none rfl) (fun a W hH => ?_) ?_
        · have e0 := Flow.see_new 5 0 hH.sees (by kernel_rfl) (by kernel_rfl) rfl rfl
          refine Reg.wp_call rfl Tryz.func99 rfl (by kernel_rfl) (by simp [Act.eval, e0]) (hg W) ?_
          rintro e w' ⟨rfl, hB⟩
          exact ⟨_, rfl, _, rfl, hB, rfl⟩
        refine Flow.pass_copy 6 1 (Flow.met_none rfl) (.inl rfl) (by kernel_rfl) (by kernel_rfl) rfl rfl (fun _ _ => Flow.kept_eqs _ _) ?_
        refine Flow.pass_val (.agg t.cells) (Flow.met_some 2 true 7 rfl rfl (by kernel_rfl) (by kernel_rfl) rfl rfl) (fun a W hH => ?_) ?_
        · have e0 := Flow.see_old 3 hH.sees (by kernel_rfl) (by kernel_rfl) rfl
          exact reg_load 61 _ rfl e0 (hbT.drew.below hH.below hbT.lt) Tryz.underlying61 rfl infSpan
        refine Flow.pass_step (Reg.eqs (.bool true)) (fun _ _ => Flow.kept_eqs _ _) (Flow.met_some 2 true 7 rfl rfl (by kernel_rfl) (by kernel_rfl) rfl rfl) (fun a W hH => ?_) ?_
        · have e0 := Flow.see_new 8 3 hH.sees (by kernel_rfl) (by kernel_rfl) rfl rfl
          refine Reg.wp_call rfl Tryz.func99 rfl (by kernel_rfl) (by simp [Act.eval, e0]) (hgT W) ?_
          rintro e w' ⟨rfl, hB⟩
          exact ⟨_, rfl, _, rfl, hB, rfl⟩
        refine Flow.pass_val (.bool true) (Flow.met_none rfl) (fun a W hH => ?_) ?_
        · have e0 := Flow.see_new 7 2 hH.sees (by kernel_rfl) (by kernel_rfl) rfl rfl
          have e1 := Flow.see_new 9 4 hH.sees (by kernel_rfl) (by kernel_rfl) rfl rfl
          go_simp; first | done | rfl
        refine Flow.pass_copy 10 5 (Flow.met_none rfl) (.inl rfl) (by kernel_rfl) (by kernel_rfl) rfl rfl (fun _ _ => Flow.kept_eqs _ _) ?_
        refine Flow.pass_val (.pointer (some ⟨w.heap.size, 0, none⟩)) (Flow.met_some 6 true 11 rfl rfl (by kernel_rfl) (by kernel_rfl) rfl rfl) (fun a W hH => ?_) ?_
        · have e0 := Flow.see_old 2 hH.sees (by kernel_rfl) (by kernel_rfl) rfl
          go_simp; first | done | rfl
        refine Flow.pass_val (.int .u64 (s.base : Int)) (Flow.met_some 6 true 11 rfl rfl (by kernel_rfl) (by kernel_rfl) rfl rfl) (fun a W hH => ?_) ?_
        · have e0 := Flow.see_new 12 7 hH.sees (by kernel_rfl) (by kernel_rfl) rfl rfl
          have cc := (sp_cells (hbS.drew.below hH.below hbS.lt)).1; go_simp
        refine Flow.pass_val (.pointer (some ⟨(w.heap.size + 1), 0, none⟩)) (Flow.met_some 6 true 11 rfl rfl (by kernel_rfl) (by kernel_rfl) rfl rfl) (fun a W hH => ?_) ?_
        · have e0 := Flow.see_old 3 hH.sees (by kernel_rfl) (by kernel_rfl) rfl
          go_simp; first | done | rfl
        refine Flow.pass_val (.int .u64 (t.base : Int)) (Flow.met_some 6 true 11 rfl rfl (by kernel_rfl) (by kernel_rfl) rfl rfl) (fun a W hH => ?_) ?_
        · have e0 := Flow.see_new 14 9 hH.sees (by kernel_rfl) (by kernel_rfl) rfl rfl
          have cc := (sp_cells (hbT.drew.below hH.below hbT.lt)).1; go_simp
        refine Flow.pass_val (.bool true) (Flow.met_some 6 true 11 rfl rfl (by kernel_rfl) (by kernel_rfl) rfl rfl) (fun a W hH => ?_) ?_
        · have e0 := Flow.see_new 13 8 hH.sees (by kernel_rfl) (by kernel_rfl) rfl rfl
          have e1 := Flow.see_new 15 10 hH.sees (by kernel_rfl) (by kernel_rfl) rfl rfl
          go_simp; first | done | rfl | (simp; omega)
        refine Flow.pass_val (.bool true) (Flow.met_none rfl) (fun a W hH => ?_) ?_
        · have e0 := Flow.see_new 11 6 hH.sees (by kernel_rfl) (by kernel_rfl) rfl rfl
          have e1 := Flow.see_new 16 11 hH.sees (by kernel_rfl) (by kernel_rfl) rfl rfl
          go_simp; first | done | rfl
        refine Flow.pass_copy 17 12 (Flow.met_none rfl) (.inl rfl) (by kernel_rfl) (by kernel_rfl) rfl rfl (fun _ _ => Flow.kept_eqs _ _) ?_
        refine Flow.pass_val (.agg s.cells) (Flow.met_some 13 true 18 rfl rfl (by kernel_rfl) (by kernel_rfl) rfl rfl) (fun a W hH => ?_) ?_
        · have e0 := Flow.see_old 2 hH.sees (by kernel_rfl) (by kernel_rfl) rfl
          exact reg_load 61 _ rfl e0 (hbS.drew.below hH.below hbS.lt) Tryz.underlying61 rfl infSpan
        refine Flow.pass_step (Reg.eqs (.int .u64 (L1 : Int))) (fun _ _ => Flow.kept_eqs _ _) (Flow.met_some 13 true 18 rfl rfl (by kernel_rfl) (by kernel_rfl) rfl rfl) (fun a W hH => ?_) ?_
        · have e0 := Flow.see_new 19 14 hH.sees (by kernel_rfl) (by kernel_rfl) rfl rfl
          refine Reg.wp_call rfl Tryz.func59 rfl (by kernel_rfl) (by simp [Act.eval, e0]) (hl1 W) ?_
          rintro e w' ⟨rfl, hB⟩
          exact ⟨_, rfl, _, rfl, hB, rfl⟩
        refine Flow.pass_val (.agg t.cells) (Flow.met_some 13 true 18 rfl rfl (by kernel_rfl) (by kernel_rfl) rfl rfl) (fun a W hH => ?_) ?_
        · have e0 := Flow.see_old 3 hH.sees (by kernel_rfl) (by kernel_rfl) rfl
          exact reg_load 61 _ rfl e0 (hbT.drew.below hH.below hbT.lt) Tryz.underlying61 rfl infSpan
        refine Flow.pass_step (Reg.eqs (.int .u64 (L2 : Int))) (fun _ _ => Flow.kept_eqs _ _) (Flow.met_some 13 true 18 rfl rfl (by kernel_rfl) (by kernel_rfl) rfl rfl) (fun a W hH => ?_) ?_
        · have e0 := Flow.see_new 21 16 hH.sees (by kernel_rfl) (by kernel_rfl) rfl rfl
          refine Reg.wp_call rfl Tryz.func59 rfl (by kernel_rfl) (by simp [Act.eval, e0]) (hl2 W) ?_
          rintro e w' ⟨rfl, hB⟩
          exact ⟨_, rfl, _, rfl, hB, rfl⟩
        refine Flow.pass_val (.bool (decide ((L1 : Int) ≤ (L2 : Int)))) (Flow.met_some 13 true 18 rfl rfl (by kernel_rfl) (by kernel_rfl) rfl rfl) (fun a W hH => ?_) ?_
        · have e0 := Flow.see_new 20 15 hH.sees (by kernel_rfl) (by kernel_rfl) rfl rfl
          have e1 := Flow.see_new 22 17 hH.sees (by kernel_rfl) (by kernel_rfl) rfl rfl
          go_simp; first | done | rfl
        refine Flow.pass_val (.bool (decide ((L1 : Int) ≤ (L2 : Int)))) (Flow.met_none rfl) (fun a W hH => ?_) ?_
        · have e0 := Flow.see_new 18 13 hH.sees (by kernel_rfl) (by kernel_rfl) rfl rfl
          have e1 := Flow.see_new 23 18 hH.sees (by kernel_rfl) (by kernel_rfl) rfl rfl
          go_simp; first | done | rfl
        refine Flow.pass_copy 24 19 (Flow.met_none rfl) (.inr rfl) (by kernel_rfl) (by kernel_rfl) rfl rfl (fun _ _ => Flow.kept_eqs _ _) ?_
        refine Flow.pass_end [none, none, none, none, some 4, some 5, some 6, some 7, some 8, some 9, some 10, some 11, some 12, some 13, some 14, some 15, some 16, some 17, some 18, some 19, some 20, some 21, some 22, some 23, some 24] (by kernel_rfl) ?_
        intro f gg w9 hB hfa hT hfg
        have h4 : f 4 = _ := (hfg 4 20 (by kernel_rfl)).trans (hT 20 _ (by kernel_rfl) rfl)
        simp only [Reg.sel, h4]
        have B9 := B1.drew.trans (hB.mono B1.size)
        clear hT hfg hfa h4
        go_wp2
        go_ret
        refine ⟨ret_bool ?_, B9⟩
        rw [hx.out]
      · have hx : Hid (s.within t = false) := Lib.hid (by simp [Sp.within, hle])
        clear hgs hgt
        go_enter Tryz.func101, Tryz.ntmps101
        go_wp2_with fail
        generalize (w.alloc (.cells s.cells 61)).alloc (.cells t.cells 61) = W1 at *
        refine Flow.wp_region_flow (W1.heap.size) [] [] (by kernel_rfl) (by kernel_rfl) (Nat.le_refl _) (fun _ h => by cases h) Flow.facts_nil ?_
        refine Flow.pass_val (.agg s.cells) (Flow.met_none rfl) (fun a W hH => ?_) ?_
        · have e0 := Flow.see_old 2 hH.sees (by kernel_rfl) (by kernel_rfl) rfl
          exact reg_load 61 _ rfl e0 (hbS.drew.below hH.below hbS.lt) Tryz.underlying61 rfl infSpan
        refine Flow.pass_step (Reg.eqs (.bool true)) (fun _ _ => Flow.kept_eqs _ _) (Flow.met_none rfl) (fun a W hH => ?_) ?_
        · have e0 := Flow.see_new 5 0 hH.sees (by kernel_rfl) (by kernel_rfl) rfl rfl
          refine Reg.wp_call rfl Tryz.func99 rfl (by kernel_rfl) (by simp [Act.eval, e0]) (hg W) ?_
          rintro e w' ⟨rfl, hB⟩
          exact ⟨_, rfl, _, rfl, hB, rfl⟩
        refine Flow.pass_copy 6 1 (Flow.met_none rfl) (.inl rfl) (by kernel_rfl) (by kernel_rfl) rfl rfl (fun _ _ => Flow.kept_eqs _ _) ?_
        refine Flow.pass_val (.agg t.cells) (Flow.met_some 2 true 7 rfl rfl (by kernel_rfl) (by kernel_rfl) rfl rfl) (fun a W hH => ?_) ?_
        · have e0 := Flow.see_old 3 hH.sees (by kernel_rfl) (by kernel_rfl) rfl
          exact reg_load 61 _ rfl e0 (hbT.drew.below hH.below hbT.lt) Tryz.underlying61 rfl infSpan
        refine Flow.pass_step (Reg.eqs (.bool true)) (fun _ _ => Flow.kept_eqs _ _) (Flow.met_some 2 true 7 rfl rfl (by kernel_rfl) (by kernel_rfl) rfl rfl) (fun a W hH => ?_) ?_
        · have e0 := Flow.see_new 8 3 hH.sees (by kernel_rfl) (by kernel_rfl) rfl rfl
          refine Reg.wp_call rfl Tryz.func99 rfl (by kernel_rfl) (by simp [Act.eval, e0]) (hgT W) ?_
          rintro e w' ⟨rfl, hB⟩
          exact ⟨_, rfl, _, rfl, hB, rfl⟩
        refine Flow.pass_val (.bool true) (Flow.met_none rfl) (fun a W hH => ?_) ?_
        · have e0 := Flow.see_new 7 2 hH.sees (by kernel_rfl) (by kernel_rfl) rfl rfl
          have e1 := Flow.see_new 9 4 hH.sees (by kernel_rfl) (by kernel_rfl) rfl rfl
          go_simp; first | done | rfl
        refine Flow.pass_copy 10 5 (Flow.met_none rfl) (.inl rfl) (by kernel_rfl) (by kernel_rfl) rfl rfl (fun _ _ => Flow.kept_eqs _ _) ?_
        refine Flow.pass_val (.pointer (some ⟨w.heap.size, 0, none⟩)) (Flow.met_some 6 true 11 rfl rfl (by kernel_rfl) (by kernel_rfl) rfl rfl) (fun a W hH => ?_) ?_
        · have e0 := Flow.see_old 2 hH.sees (by kernel_rfl) (by kernel_rfl) rfl
          go_simp; first | done | rfl
        refine Flow.pass_val (.int .u64 (s.base : Int)) (Flow.met_some 6 true 11 rfl rfl (by kernel_rfl) (by kernel_rfl) rfl rfl) (fun a W hH => ?_) ?_
        · have e0 := Flow.see_new 12 7 hH.sees (by kernel_rfl) (by kernel_rfl) rfl rfl
          have cc := (sp_cells (hbS.drew.below hH.below hbS.lt)).1; go_simp
        refine Flow.pass_val (.pointer (some ⟨(w.heap.size + 1), 0, none⟩)) (Flow.met_some 6 true 11 rfl rfl (by kernel_rfl) (by kernel_rfl) rfl rfl) (fun a W hH => ?_) ?_
        · have e0 := Flow.see_old 3 hH.sees (by kernel_rfl) (by kernel_rfl) rfl
          go_simp; first | done | rfl
        refine Flow.pass_val (.int .u64 (t.base : Int)) (Flow.met_some 6 true 11 rfl rfl (by kernel_rfl) (by kernel_rfl) rfl rfl) (fun a W hH => ?_) ?_
        · have e0 := Flow.see_new 14 9 hH.sees (by kernel_rfl) (by kernel_rfl) rfl rfl
          have cc := (sp_cells (hbT.drew.below hH.below hbT.lt)).1; go_simp
        refine Flow.pass_val (.bool false) (Flow.met_some 6 true 11 rfl rfl (by kernel_rfl) (by kernel_rfl) rfl rfl) (fun a W hH => ?_) ?_
        · have e0 := Flow.see_new 13 8 hH.sees (by kernel_rfl) (by kernel_rfl) rfl rfl
          have e1 := Flow.see_new 15 10 hH.sees (by kernel_rfl) (by kernel_rfl) rfl rfl
          go_simp; first | done | rfl | (simp; omega)
        refine Flow.pass_val (.bool false) (Flow.met_none rfl) (fun a W hH => ?_) ?_
        · have e0 := Flow.see_new 11 6 hH.sees (by kernel_rfl) (by kernel_rfl) rfl rfl
          have e1 := Flow.see_new 16 11 hH.sees (by kernel_rfl) (by kernel_rfl) rfl rfl
          go_simp; first | done | rfl
        refine Flow.pass_copy 17 12 (Flow.met_none rfl) (.inl rfl) (by kernel_rfl) (by kernel_rfl) rfl rfl (fun _ _ => Flow.kept_eqs _ _) ?_
        refine Flow.pass_skip (fun a W hH => Flow.not_wanted 13 true 18 hH rfl rfl (by kernel_rfl) (by kernel_rfl) rfl rfl) ?_
        refine Flow.pass_skip (fun a W hH => Flow.not_wanted 13 true 18 hH rfl rfl (by kernel_rfl) (by kernel_rfl) rfl rfl) ?_
        refine Flow.pass_skip (fun a W hH => Flow.not_wanted 13 true 18 hH rfl rfl (by kernel_rfl) (by kernel_rfl) rfl rfl) ?_
        refine Flow.pass_skip (fun a W hH => Flow.not_wanted 13 true 18 hH rfl rfl (by kernel_rfl) (by kernel_rfl) rfl rfl) ?_
        refine Flow.pass_skip (fun a W hH => Flow.not_wanted 13 true 18 hH rfl rfl (by kernel_rfl) (by kernel_rfl) rfl rfl) ?_
        refine Flow.pass_val (.bool false) (Flow.met_none rfl) (fun a W hH => ?_) ?_
        · have e0 := Flow.see_new 18 13 hH.sees (by kernel_rfl) (by kernel_rfl) rfl rfl
          have e1 := Flow.see_new 23 18 hH.sees (by kernel_rfl) (by kernel_rfl) rfl rfl
          go_simp; first | done | rfl
        refine Flow.pass_copy 24 19 (Flow.met_none rfl) (.inr rfl) (by kernel_rfl) (by kernel_rfl) rfl rfl (fun _ _ => Flow.kept_eqs _ _) ?_
        refine Flow.pass_end [none, none, none, none, some 4, some 5, some 6, some 7, some 8, some 9, some 10, some 11, some 12, some 13, some 14, some 15, some 16, some 17, some 18, some 19, some 20, some 21, some 22, some 23, some 24] (by kernel_rfl) ?_
        intro f gg w9 hB hfa hT hfg
        have h4 : f 4 = _ := (hfg 4 20 (by kernel_rfl)).trans (hT 20 _ (by kernel_rfl) rfl)
        simp only [Reg.sel, h4]
        have B9 := B1.drew.trans (hB.mono B1.size)
        clear hT hfg hfa h4
        go_wp2
        go_ret
        refine ⟨ret_bool ?_, B9⟩
        rw [hx.out]
end Go.Proofs.YtipdmhppadapkaaGreatDoor
/-
  Walks: span.Pages (through slices.ContainsFunc, slices.IndexFunc).
-/
namespace Go.Proofs.YtipdmhppadapkaaGreatDoor
open Go.RowKit

section
variable {P : Program} {ops : Array Oper} {rest : List Oper} {o : Oper} {a : Act} {Q : Exit → Act → World → Prop}
/-- a call of a function value -/
theorem wpList_callV {w : World} {f : FuncId} {fn : Func} {c : Code} {x : Tmp} {args : Array Operand} {tys : Array TypeId} {caps vals : Array Value} {R : Ending → World → Prop} (hgd : o.guard = none)
    (ho : o.op = .call { callee := .value (.tmp x), args := args, argTypes := tys }) (hx : a.tmps[x]?.getD undef = .func (.func f) #[] caps) (hf : P.funcs[f]? = some fn) (hb : fn.body = some c) (hname : (fn.name == "runtime.NumGoroutine") = false)
    (hv : args.map a.eval ++ caps = vals) (h : Calls P f vals w R) (hR : ∀ e w', R e w' → ∃ v, e = .returned v ∧ wpList P ops Q rest (a.put o.dst v) w') : wpList P ops Q (o :: rest) a w := by
  refine wpList_plain hgd fun K hK => ?_
  have h1 : fn.name ≠ "runtime.NumGoroutine" := by simpa using hname
  have hrun : (execOp a.eval o).run P w = .ok (.enter f vals) w := by
    simp [execOp, ho, resolve, Act.eval, hx, Deferred.ofValue, invoke, callFunc, hf, h1, hb]
    exact hv
  unfold Oper.wp
  rw [hrun]
  refine Calls.mono h fun e w' hr => ?_
  obtain ⟨v, rfl, h2⟩ := hR e w' hr
  exact hK _ _ h2
end
section
variable {P : Program} {ops : Array Oper} {rest : List Oper} {a : Act} {w : World} {Q : Exit → Act → World → Prop} {dst : Option Tmp} {ty : TypeId} {pos : String} {aft : Array Edge} {gd : Option (Nat × Bool)}
theorem at_callV (x : Tmp) {args : Array Operand} {tys : Array TypeId} (h : wpList P ops Q (⟨dst, .call ⟨.value (.tmp x), args, tys⟩, ty, pos, aft, gd⟩ :: rest) a w) : wpList P ops Q (⟨dst, .call ⟨.value (.tmp x), args, tys⟩, ty, pos, aft, gd⟩ :: rest) a w := h
end

theorem or_pages (a b : Nat) : (a ||| b) % 4096 = 0 ↔ a % 4096 = 0 ∧ b % 4096 = 0 := by
  have := Nat.or_mod_two_pow (a := a) (b := b) (n := 12)
  rw [show (2 : Nat) ^ 12 = 4096 from rfl] at this
  rw [this, Nat.or_eq_zero_iff]

set_option maxRecDepth 100000 in
theorem notPages_any (s : Sp) (ok : s.ok) (w : World) : Calls Tryz.prog 97 #[.agg s.cells] w (BoolRet w (!s.pages)) := by
  have hb := Blk.new w 61 s.cells
  have B : Below w.heap.size w (w.alloc (.cells s.cells 61)) := (Below.refl _ _).alloc (Nat.le_refl _) _
  have k1 := ok.base
  have k2 := ok.size
  go_enter Tryz.func97, Tryz.ntmps97
  go_wp2_with ((with_reducible refine at_load 61 ?_); refine wpList_loadAll _ rfl 61 _ rfl w.heap.size 61 s.cells hb _ rfl Tryz.underlying61 rfl infSpan ?_)
  generalize w.alloc (.cells s.cells 61) = W at *
  refine (good_any s ok W).mono ?_
  rintro e W2 ⟨rfl, hB⟩
  have hb2 := hb.below hB hb.lt
  obtain ⟨c0, c1⟩ := sp_cells hb2
  have B2 := B.trans (hB.mono B.size)
  clear hb B hB
  cases hg : s.good with
  | false =>
    have hx : Hid (s.pages = false) := Lib.hid (by simp [Sp.pages, hg])
    clear hg
    go_wp2
    go_ret
    refine ⟨ret_bool ?_, B2⟩
    rw [hx.out]; rfl
  | true =>
    have hx : Hid (s.pages = decide (s.base % 4096 = 0 ∧ s.size % 4096 = 0)) := Lib.hid (by simp [Sp.pages, hg])
    clear hg
    go_wp2
    all_goals
      go_ret
      refine ⟨ret_bool ?_, B2⟩
      rw [hx.out]
      rw [u64_or_nat _ _ k1 k2, Bool.eq_iff_iff]
      rw [show ((s.base ||| s.size : Nat) : Int).tmod 4096 = (((s.base ||| s.size) % 4096 : Nat) : Int) from rfl]
      simp only [bne_iff_ne, ne_eq, Bool.not_eq_true', decide_eq_false_iff_not, ← or_pages]
      omega
def scells (l : List Sp) : List Value := l.flatMap (·.cells.toList)
theorem scells_length (l : List Sp) : (scells l).length = l.length * 2 := by
  induction l with
  | nil => rfl
  | cons s l ih => simp only [scells, List.flatMap_cons, List.length_append] at *; rw [ih]; simp [Sp.cells]; omega
theorem scells_get : ∀ (l : List Sp) (k : Nat) (s : Sp), l[k]? = some s → ((scells l).drop (k * 2)).take 2 = s.cells.toList
  | [], k, s, h => by simp at h
  | x :: l, 0, s, h => by
    simp at h; subst h
    simp [scells, Sp.cells]
  | x :: l, k + 1, s, h => by
    have := scells_get l k s (by simpa using h)
    simp only [scells, List.flatMap_cons]
    rw [show (k + 1) * 2 = 2 + k * 2 by omega, ← List.drop_drop, List.drop_left' (by simp [Sp.cells])]
    exact this
/-- the k-th span of a row -/
theorem rd_span {w : World} {B n : Nat} {b off : Nat} {l : List Sp} (h : Rd w B 2 (some ⟨b, off, none⟩) n (scells l)) (k : Nat) (s : Sp) (hk : l[k]? = some s) : w.rangeAt b (off + k * 2) s.cells.toList := by
  obtain ⟨hlt, _⟩ := List.getElem?_eq_some_iff.1 hk
  have hn : n = l.length := by have := h.len; rw [scells_length] at this; omega
  obtain ⟨b', off', e, _, hr⟩ := h.range (by omega)
  cases e
  intro j v hv
  have hg := scells_get l k s hk
  have hv2 : (scells l)[k * 2 + j]? = some v := by
    have h1 : (((scells l).drop (k * 2)).take 2)[j]? = some v := by rw [hg]; exact hv
    rw [List.getElem?_take] at h1
    split at h1
    · rwa [List.getElem?_drop] at h1
    · cases h1
  have := hr (k * 2 + j) v hv2
  rwa [← Nat.add_assoc] at this

set_option maxRecDepth 100000 in
set_option maxHeartbeats 1000000 in
theorem idxPages_any (b off n c : Nat) (l : List Sp) (hok : ∀ s ∈ l, s.ok) (w : World) (hR : Rd w w.heap.size 2 (some ⟨b, off, none⟩) n (scells l)) (hn : n ≤ 1000000) :
    Calls Tryz.prog 133 #[.slice (some ⟨b, off, none⟩) n c, .func (.func 97) #[] #[]] w fun e w' =>
      ∃ i : Int, e = .returned (.int .i64 i) ∧ decide (0 ≤ i) = !(l.all Sp.pages) ∧ Below w.heap.size w w' := by
  have hnl : n = l.length := by have := hR.len; rw [scells_length] at this; omega
  have HL := Lib.hid hnl
  have HOK := Lib.hid hok
  clear hnl hok
  go_enter Tryz.func133, Tryz.ntmps133
  go_wp2
  go_loopw [8] (fun i wr => ∃ k : Nat, k ≤ n ∧ i = .int .i64 k ∧ Hid (∀ s ∈ l.take k, s.pages = true) ∧ Below w.heap.size w wr) (fun i _ => n - (intOf i).toNat)
  case atStart => exact ⟨0, Nat.zero_le _, rfl, Lib.hid (by simp), Below.refl _ _⟩
  case round =>
    obtain ⟨k, hk, rfl, hall, hB⟩ := hrel
    by_cases hlt : k < n
    · obtain ⟨s, hs⟩ : ∃ s, l[k]? = some s := ⟨_, List.getElem?_eq_getElem (by rw [← HL.out]; exact hlt)⟩
      have hok : s.ok := HOK.out s (List.mem_of_getElem? hs)
      have hrng := rd_span (hR.below hB) k s hs
      have HS := Lib.hid hs
      have hcall := notPages_any s hok wr
      obtain ⟨p, hp⟩ : ∃ p, p = s.pages := ⟨_, rfl⟩
      rw [← hp] at hcall
      have HP := Lib.hid hp
      clear hs hp
      cases p with
      | true =>
        go_wp2_with (first
          | ((with_reducible refine at_load 61 ?_); refine wpList_load_mid rfl 61 _ rfl b (off + k * 2) rfl s.cells.toList _ hrng Tryz.underlying61 rfl infSpan ?_)
          | ((with_reducible refine at_callV 11 ?_); refine wpList_callV (vals := #[.agg s.cells]) rfl rfl rfl Tryz.func97 rfl (by kernel_rfl) (by simp [Act.eval, Act.put]) hcall ?_; rintro e w5 ⟨rfl, hB5⟩; refine ⟨_, rfl, ?_⟩))
        go_roundw
        case rel => exact ⟨k + 1, by omega, by go_num, Lib.hid (by
          intro x hx
          rw [List.take_add_one, HS.out] at hx
          simp only [Option.toList_some, List.mem_append, List.mem_singleton] at hx
          rcases hx with hx | rfl
          · exact hall.out x hx
          · exact HP.out.symm), hB.trans (hB5.mono hB.size)⟩
        case measure => simp [intOf]; omega
      | false =>
        go_wp2_with (first
          | ((with_reducible refine at_load 61 ?_); refine wpList_load_mid rfl 61 _ rfl b (off + k * 2) rfl s.cells.toList _ hrng Tryz.underlying61 rfl infSpan ?_)
          | ((with_reducible refine at_callV 11 ?_); refine wpList_callV (vals := #[.agg s.cells]) rfl rfl rfl Tryz.func97 rfl (by kernel_rfl) (by simp [Act.eval, Act.put]) hcall ?_; rintro e w5 ⟨rfl, hB5⟩; refine ⟨_, rfl, ?_⟩))
        go_ret
        refine ⟨_, rfl, ?_, hB.trans (hB5.mono hB.size)⟩
        have hf : l.all Sp.pages = false := by
          rw [List.all_eq_false]
          exact ⟨s, List.mem_of_getElem? HS.out, by rw [← HP.out]; simp⟩
        rw [hf]; simp
    · obtain rfl : k = n := by omega
      go_wp2
      go_ret
      refine ⟨_, rfl, ?_, hB⟩
      have hf : l.all Sp.pages = true := by
        rw [List.all_eq_true]
        intro x hx
        exact hall.out x (by rw [List.take_of_length_le (by rw [HL.out]; exact Nat.le_refl _)]; exact hx)
      rw [hf]; rfl

set_option maxRecDepth 100000 in
theorem mpages_any (b off n c : Nat) (l : List Sp) (hok : ∀ s ∈ l, s.ok) (w : World) (hR : Rd w w.heap.size 2 (some ⟨b, off, none⟩) n (scells l)) (hn : n ≤ 1000000) :
    Calls Tryz.prog 55 #[.slice (some ⟨b, off, none⟩) n c] w (BoolRet w (l.all Sp.pages)) := by
  have hcf : Calls Tryz.prog 96 #[.slice (some ⟨b, off, none⟩) n c, .func (.func 97) #[] #[]] w (BoolRet w (!(l.all Sp.pages))) := by
    go_enter Tryz.func96, Tryz.ntmps96
    go_wp2_with fail
    refine (idxPages_any b off n c l hok w hR hn).mono ?_
    rintro e w' ⟨i, rfl, hi, hB⟩
    go_wp2
    go_ret
    exact ⟨ret_bool (by first | rfl | exact hi), hB⟩
  obtain ⟨p, hp⟩ : ∃ p, p = l.all Sp.pages := ⟨_, rfl⟩
  rw [← hp] at hcf ⊢
  clear hp hok hR
  go_enter Tryz.func55, Tryz.ntmps55
  go_wp2_with fail
  refine hcf.mono ?_
  rintro e w' ⟨rfl, hB⟩
  go_wp2
  go_ret
  exact ⟨ret_bool (by simp), hB⟩
end Go.Proofs.YtipdmhppadapkaaGreatDoor
/-
  Walks: Fit of both: which boards may be.
-/
namespace Go.Proofs.YtipdmhppadapkaaGreatDoor
open Go.RowKit

structure Bd where
  ram : Sp
  ldr : Sp
  irqs : Int
  streams : Int
  cpus : Int
structure Bd.ok (b : Bd) : Prop where
  ram : b.ram.ok
  ldr : b.ldr.ok
  irqs : (Lit.int .i64 b.irqs).wf = true
  streams : (Lit.int .i64 b.streams).wf = true
  cpus : (Lit.int .i64 b.cpus).wf = true
def Bd.cells (b : Bd) : Array Value := #[.int .u64 (b.ram.base : Int), .int .u64 (b.ram.size : Int), .int .u64 (b.ldr.base : Int), .int .u64 (b.ldr.size : Int), .int .i64 b.irqs, .int .i64 b.streams, .int .i64 b.cpus]
def Bd.spans (b : Bd) : Bool := b.ram.pages && b.ldr.pages && decide (b.ram.last < 1099511627776) && b.ldr.within b.ram
def Bd.counts (b : Bd) : Bool := decide (0 ≤ b.irqs ∧ b.irqs ≤ 1020 ∧ 0 ≤ b.streams ∧ b.streams ≤ 256 ∧ 1 ≤ b.cpus ∧ b.cpus ≤ 32)
def Bd.fits (b : Bd) : Bool := b.spans && b.counts
def Bd.err (b : Bd) : Int := if b.fits then 0 else 282
theorem elSp : Elem Tryz.prog 178 61 (.agg #[.int .u64 0, .int .u64 0]) 2 16 := Elem.of (by kernel_rfl) (by kernel_rfl) rfl (by omega)
theorem run_spans1 (w : World) (s : Sp) : (Instr.buildSlice 178 1 #[(0, .agg s.cells)]).run Tryz.prog w = .ok (.slice (some ⟨w.heap.size, 0, none⟩) 1 1) (w.alloc (.cells (scells [s]).toArray 61)) := by
  have := run_buildSlice_all (P := Tryz.prog) w elSp 1 #[(0, .agg s.cells)] [.agg s.cells] rfl rfl (by omega) (by omega) (by simp [Value.cells, Sp.cells])
  simpa [flat, Value.cells, scells] using this
end Go.Proofs.YtipdmhppadapkaaGreatDoor
/-
  Walk: portreeveref09.Fit.
-/
namespace Go.Proofs.YtipdmhppadapkaaGreatDoor
open Go.RowKit

theorem wpList_load_midW {P : Program} {ops : Array Oper} {rest : List Oper} {op : Oper} {a : Act} {w : World} {Q : Exit → Act → World → Prop} (hw : Region.wanted op (yielded ops a.tmps) = true) (ty : TypeId) (x : Operand) (ho : op.op = .load ty x)
    (b o : Nat) (hx : a.eval x = .pointer (some ⟨b, o, none⟩)) (cs : List Value) (d : TypeDesc) (hc : w.rangeAt b o cs)
    (hu : P.underlying ty = some d) (hd : d.isRow = true) (hi : (P.info? ty).map (·.size) = some cs.length)
    (h : wpList P ops Q rest (a.put op.dst (.agg cs.toArray)) w) : wpList P ops Q (op :: rest) a w :=
  wpList_runV hw (by
    unfold execOp
    simp only [ho, hx, Instr.loadAt, Instr.sureAddr, Sem.run_bind, Sem.run_pure, Result.andThen_ok, run_loadVar_mid w b o ty cs d hc hu hd hi]) h

end Go.Proofs.YtipdmhppadapkaaGreatDoor
/-
  Plain: memory as bytes at addresses. The program's Mem in memory: a map of pages.
-/
namespace Go.Proofs.YtipdmhppadapkaaGreatDoor
open Go.RowKit
open Go.Maps (Keyed)

abbrev Mm := Nat → UInt8
def pageOf (m : Mm) (k : Nat) : List UInt8 := (List.range 4096).map fun i => m (4096 * k + i)
theorem pageOf_length (m : Mm) (k : Nat) : (pageOf m k).length = 4096 := by simp [pageOf]
theorem pageOf_get (m : Mm) (k i : Nat) (h : i < 4096) : (pageOf m k)[i]? = some (m (4096 * k + i)) := by simp [pageOf, h]
def readM (m : Mm) (a n : Nat) : List UInt8 := (List.range n).map fun i => m (a + i)
theorem readM_length (m : Mm) (a n : Nat) : (readM m a n).length = n := by simp [readM]
theorem readM_get (m : Mm) (a n i : Nat) (h : i < n) : (readM m a n)[i]? = some (m (a + i)) := by simp [readM, h]
def writeM (m : Mm) (a : Nat) (l : List UInt8) : Mm := fun x => if a ≤ x ∧ x < a + l.length then l[x - a]?.getD 0 else m x
theorem writeM_nil (m : Mm) (a : Nat) : writeM m a [] = m := by
  funext x; unfold writeM; rw [if_neg (by simp only [List.length_nil]; omega)]
theorem writeM_in (m : Mm) (a : Nat) (l : List UInt8) (i : Nat) (h : i < l.length) : writeM m a l (a + i) = l[i]?.getD 0 := by
  unfold writeM; rw [if_pos ⟨by omega, by omega⟩, Nat.add_sub_cancel_left]
theorem writeM_out (m : Mm) (a : Nat) (l : List UInt8) (x : Nat) (h : x < a ∨ a + l.length ≤ x) : writeM m a l x = m x := by
  unfold writeM; rw [if_neg (by omega)]
theorem writeM_append (m : Mm) (a : Nat) (l l2 : List UInt8) : writeM (writeM m a l) (a + l.length) l2 = writeM m a (l ++ l2) := by
  funext x
  simp only [writeM, List.length_append]
  by_cases h1 : a ≤ x
  · by_cases h2 : x < a + l.length
    · rw [if_neg (by omega), if_pos ⟨h1, h2⟩, if_pos ⟨h1, by omega⟩, List.getElem?_append_left (by omega)]
    · by_cases h3 : x < a + (l.length + l2.length)
      · rw [if_pos ⟨by omega, by omega⟩, if_pos ⟨h1, h3⟩, List.getElem?_append_right (by omega)]
        congr 2; omega
      · rw [if_neg (by omega), if_neg (by omega), if_neg (by omega)]
  · rw [if_neg (by omega), if_neg (by omega), if_neg (by omega)]
/-- one page of the memory behind a write that stays within it -/
theorem pageOf_write (m : Mm) (k o : Nat) (l : List UInt8) (h : o + l.length ≤ 4096) : pageOf (writeM m (4096 * k + o) l) k = (pageOf m k).take o ++ l ++ (pageOf m k).drop (o + l.length) := by
  apply List.ext_getElem?
  intro i
  by_cases hi : i < 4096
  · rw [pageOf_get _ _ _ hi, List.append_assoc]
    by_cases h1 : i < o
    · rw [List.getElem?_append_left (by rw [List.length_take, pageOf_length]; omega), List.getElem?_take, if_pos h1, pageOf_get _ _ _ hi, writeM_out _ _ _ _ (by omega)]
    · rw [List.getElem?_append_right (by rw [List.length_take, pageOf_length]; omega)]
      have e1 : (List.take o (pageOf m k)).length = o := by rw [List.length_take, pageOf_length]; omega
      rw [e1]
      by_cases h2 : i < o + l.length
      · rw [List.getElem?_append_left (by omega)]
        have := writeM_in m (4096 * k + o) l (i - o) (by omega)
        rw [show 4096 * k + o + (i - o) = 4096 * k + i by omega] at this
        rw [this, List.getElem?_eq_getElem (by omega)]; rfl
      · rw [List.getElem?_append_right (by omega), List.getElem?_drop, show o + l.length + (i - o - l.length) = i by omega, pageOf_get _ _ _ hi, writeM_out _ _ _ _ (by omega)]
  · rw [List.getElem?_eq_none (by rw [pageOf_length]; omega), List.getElem?_eq_none (by simp [pageOf_length]; omega)]
theorem pageOf_other (m : Mm) (k k2 o : Nat) (l : List UInt8) (h : o + l.length ≤ 4096) (hk : k2 ≠ k) : pageOf (writeM m (4096 * k + o) l) k2 = pageOf m k2 := by
  apply List.ext_getElem?
  intro i
  by_cases hi : i < 4096
  · rw [pageOf_get _ _ _ hi, pageOf_get _ _ _ hi, writeM_out]
    rcases Nat.lt_or_gt_of_ne hk with h1 | h1 <;> omega
  · rw [List.getElem?_eq_none (by rw [pageOf_length]; omega), List.getElem?_eq_none (by rw [pageOf_length]; omega)]
theorem pageOf_zero (m : Mm) (k : Nat) (h : ∀ i, i < 4096 → m (4096 * k + i) = 0) : pageOf m k = List.replicate 4096 0 := by
  apply List.ext_getElem?
  intro i
  by_cases hi : i < 4096
  · rw [pageOf_get _ _ _ hi, h i hi, List.getElem?_replicate, if_pos hi]
  · rw [List.getElem?_eq_none (by rw [pageOf_length]; omega), List.getElem?_eq_none (by rw [List.length_replicate]; omega)]

/-! the map's elements: a page's block, told as a number -/
def pgV (g : Nat) : Value := .slice (some ⟨g, 0, none⟩) 4096 4096
open Classical in
noncomputable def pgE (v : Value) : Option (DataW Unit × List MemPlace) := if h : ∃ g, v = pgV g then some (.lit (.int .i64 (h.choose : Int)), []) else if v = .slice none 0 0 then some (.nil, []) else none
theorem pgE_mk (g : Nat) : pgE (pgV g) = some (.lit (.int .i64 (g : Int)), []) := by
  have h : ∃ g', pgV g = pgV g' := ⟨g, rfl⟩
  unfold pgE
  rw [dif_pos h]
  have hs := Classical.choose_spec h
  obtain ⟨x, hx⟩ : ∃ x, x = Classical.choose h := ⟨_, rfl⟩
  rw [← hx] at hs
  have e : Classical.choose h = g := by
    rw [← hx]
    simp only [pgV, Value.slice.injEq, Option.some.injEq, Addr.mk.injEq, and_true] at hs
    exact hs.symm
  exact congrArg (fun x : Nat => some (DataW.lit (Lit.int .i64 (x : Int)), [])) e
theorem pgE_nil : pgE (.slice none 0 0) = some (.nil, []) := by
  unfold pgE
  rw [dif_neg (by rintro ⟨g, h⟩; cases h), if_pos rfl]
theorem pgE_inv {v : Value} {y : DataW Unit × List MemPlace} (h : pgE v = some y) : (∃ g : Nat, v = pgV g ∧ y = (.lit (.int .i64 (g : Int)), [])) ∨ (v = .slice none 0 0 ∧ y = (.nil, [])) := by
  unfold pgE at h
  split at h
  · rename_i hx
    left
    refine ⟨hx.choose, hx.choose_spec, (Option.some.inj h).symm⟩
  · split at h
    · rename_i hx; right; exact ⟨hx, (Option.some.inj h).symm⟩
    · cases h
theorem keyU : Keyed Tryz.prog 24 := Maps.int_keyed Tryz.underlying24
theorem keyU_mk (k : Nat) (hk : k < 18446744073709551616) : keyOf Tryz.prog 24 (.int .u64 (k : Int)) = some (.int .u64 (k : Int)) :=
  Maps.keyOf_int_mk Tryz.underlying24 (by simp [Lit.wf, IntKind.min, IntKind.max, IntKind.bits, IntKind.signed]; omega)
theorem zeroPg (w : World) : (zeroValue 22).run Tryz.prog w = .ok (.slice none 0 0) w := by kernel_rfl
def pgAt (pg : Nat → Option Nat) (k : Nat) (zd : DataW Unit) : DataW Unit := match pg k with | none => zd | some g => .lit (.int .i64 (g : Int))

/-- the program's Mem at block p: its memory m, its blocks F, at most N pages -/
structure PM (w : World) (p : Nat) (ram : Sp) (m : Mm) (F : Nat → Prop) (N : Nat) (bm : Nat) (D : DataW Unit) (pg : Nat → Option Nat) : Prop where
  blk : Blk w p 123 #[.int .u64 (ram.base : Int), .int .u64 (ram.size : Int), .map (some bm)]
  own : w.ownsMap Tryz.prog 24 pgE bm N D
  at_ : ∀ (k : Nat) (zd : DataW Unit), k < 18446744073709551616 → D.atKey (.int .u64 (k : Int)) zd = pgAt pg k zd
  rows : ∀ k g, pg k = some g → Blk w g 5 (bcells (pageOf m k)).toArray ∧ F g ∧ k < 4503599627370496
  zero : ∀ k, pg k = none → ∀ i, i < 4096 → m (4096 * k + i) = 0
  inj : ∀ k k' g, pg k = some g → pg k' = some g → k = k'
  fp : F p
  fm : F bm
  flt : ∀ b, F b → b < w.heap.size
def PMem (w : World) (p : Nat) (ram : Sp) (m : Mm) (F : Nat → Prop) (N : Nat) : Prop := ∃ bm D pg, PM w p ram m F N bm D pg

namespace PM
variable {w w' : World} {p : Nat} {ram : Sp} {m : Mm} {F : Nat → Prop} {N bm : Nat} {D : DataW Unit} {pg : Nat → Option Nat}
theorem keep (h : PM w p ram m F N bm D pg) (hs : w.heap.size ≤ w'.heap.size) (hb : ∀ b, F b → w'.heap[b]? = w.heap[b]?) : PM w' p ram m F N bm D pg := by
  obtain ⟨es, clock, h1, h2, h3, h4⟩ := h.own
  exact ⟨(hb p h.fp).trans h.blk, ⟨es, clock, (hb bm h.fm).trans h1, h2, h3, h4⟩, h.at_, fun k g hk => ⟨(hb g (h.rows k g hk).2.1).trans (h.rows k g hk).1, (h.rows k g hk).2⟩, h.zero, h.inj, h.fp, h.fm, fun b hF => Nat.lt_of_lt_of_le (h.flt b hF) hs⟩
theorem chg (h : PM w p ram m F N bm D pg) {Z : Nat → Prop} (c : Chg Z w w') (hZ : ∀ b, F b → ¬ Z b) : PM w' p ram m F N bm D pg :=
  h.keep c.size fun b hb => c.block b (h.flt b hb) (hZ b hb)
theorem below (h : PM w p ram m F N bm D pg) {n : Nat} (c : Below n w w') (hn : w.heap.size ≤ n) : PM w' p ram m F N bm D pg :=
  h.keep c.size fun b hb => c.block b (Nat.lt_of_lt_of_le (h.flt b hb) hn)
theorem more (h : PM w p ram m F N bm D pg) {N' : Nat} (hN : N ≤ N') : PM w p ram m F N' bm D pg := ⟨h.blk, h.own.mono hN, h.at_, h.rows, h.zero, h.inj, h.fp, h.fm, h.flt⟩
theorem ne_pm (h : PM w p ram m F N bm D pg) : p ≠ bm := by
  obtain ⟨es, clock, h1, _⟩ := h.own
  intro e
  have := h.blk
  rw [e] at this
  unfold Blk at this
  rw [h1] at this
  cases this
theorem ne_gm (h : PM w p ram m F N bm D pg) {k g : Nat} (hk : pg k = some g) : g ≠ bm := by
  obtain ⟨es, clock, h1, _⟩ := h.own
  intro e
  have := (h.rows k g hk).1
  rw [e] at this
  unfold Blk at this
  rw [h1] at this
  cases this
theorem ne_gp (h : PM w p ram m F N bm D pg) {k g : Nat} (hk : pg k = some g) : g ≠ p := by
  intro e
  have h1 := (h.rows k g hk).1
  rw [e] at h1
  have h2 := h.blk
  unfold Blk at h1 h2
  rw [h1] at h2
  have := Option.some.inj h2
  injection this with h3 h4
  exact absurd h4 (by decide)
/-- m.pages[k] -/
theorem look (h : PM w p ram m F N bm D pg) (k : Nat) (hk : k < 18446744073709551616) :
    (Instr.lookup 121 (.map (some bm)) (.int .u64 (k : Int)) false).run Tryz.prog w = .ok (match pg k with | none => .slice none 0 0 | some g => pgV g) w := by
  obtain ⟨v, ps, hrun, hv⟩ := h.own.lookup keyU Tryz.underlying121 (zeroPg w) pgE_nil (keyU_mk k hk)
  rw [hrun]
  rw [h.at_ k .nil hk] at hv
  unfold pgAt at hv
  rcases pgE_inv hv with ⟨g, rfl, hy⟩ | ⟨rfl, hy⟩
  · cases hp : pg k with
    | none => rw [hp] at hy; cases hy
    | some g' =>
      rw [hp] at hy
      have e := congrArg Prod.fst hy
      simp only [DataW.lit.injEq, Lit.int.injEq, true_and] at e
      have : g' = g := by omega
      subst this; rfl
  · cases hp : pg k with
    | none => rfl
    | some g' => rw [hp] at hy; cases hy
/-- m.pages[k] = a new page of zeros -/
theorem make (h : PM w p ram m F N bm D pg) (k g : Nat) (hk : k < 4503599627370496) (hN : N < maxLen) (hp : pg k = none) (hg : Blk w g 5 (bcells (List.replicate 4096 0)).toArray) (hF : ¬ F g) :
    ∃ w2 D2, (Instr.mapUpdate 121 (.map (some bm)) (.int .u64 (k : Int)) (pgV g)).run Tryz.prog w = .ok () w2 ∧ w.grownBy w2 (some bm) ∧
      PM w2 p ram m (fun b => F b ∨ b = g) (N + 1) bm D2 (fun x => if x = k then some g else pg x) := by
  obtain ⟨w2, hrun, hown, hgr⟩ := h.own.update keyU Tryz.underlying121 hN (keyU_mk k (by omega)) (pgE_mk g)
  have hb : ∀ b, b ≠ bm → b < w.heap.size → w2.heap[b]? = w.heap[b]? := fun b hb hl => hgr.block b hl (fun e => hb (Option.some.inj e))
  have hgm : g ≠ bm := fun e => hF (e ▸ h.fm)
  have hD := h.own.isMap
  refine ⟨w2, _, hrun, hgr, (hb p h.ne_pm h.blk.lt).trans h.blk, hown, fun x zd hx => ?_, fun x gx hx => ?_, fun x hx i hi => ?_, fun x y gx hx hy => ?_, .inl h.fp, .inl h.fm, fun b hbF => ?_⟩
  · by_cases e : x = k
    · subst e
      rw [Maps.atKey_put_same hD (keyU.key (keyU_mk x (by omega)))]
      simp [pgAt]
    · rw [Maps.atKey_put_other (by simp; omega), h.at_ x zd hx]
      simp [pgAt, e]
  · by_cases e : x = k
    · subst e
      simp only [if_true, Option.some.injEq] at hx
      subst hx
      exact ⟨(hb g hgm hg.lt).trans (by rw [pageOf_zero m x (h.zero x hp)]; exact hg), .inr rfl, hk⟩
    · simp only [if_neg e] at hx
      obtain ⟨r1, r2, r3⟩ := h.rows x gx hx
      exact ⟨(hb gx (h.ne_gm hx) r1.lt).trans r1, .inl r2, r3⟩
  · by_cases e : x = k
    · subst e; simp at hx
    · simp only [if_neg e] at hx; exact h.zero x hx i hi
  · by_cases e : x = k
    · by_cases e2 : y = k
      · rw [e, e2]
      · simp only [if_pos e, Option.some.injEq] at hx
        simp only [if_neg e2] at hy
        subst hx
        exact absurd (h.rows y g hy).2.1 hF
    · by_cases e2 : y = k
      · simp only [if_pos e2, Option.some.injEq] at hy
        simp only [if_neg e] at hx
        subst hy
        exact absurd (h.rows x g hx).2.1 hF
      · simp only [if_neg e] at hx
        simp only [if_neg e2] at hy
        exact h.inj x y gx hx hy
  · rcases hbF with hbF | rfl
    · exact Nat.lt_of_lt_of_le (h.flt b hbF) hgr.size
    · exact Nat.lt_of_lt_of_le hg.lt hgr.size
/-- a page is written -/
theorem put (h : PM w p ram m F N bm D pg) {k g o : Nat} {l : List UInt8} (hp : pg k = some g) (ho : o + l.length ≤ 4096) (hgr : w.grownBy w' (some g)) (hg : Blk w' g 5 (bcells ((pageOf m k).take o ++ l ++ (pageOf m k).drop (o + l.length))).toArray) :
    PM w' p ram (writeM m (4096 * k + o) l) F N bm D pg := by
  have hb : ∀ b, b ≠ g → b < w.heap.size → w'.heap[b]? = w.heap[b]? := fun b hb hl => hgr.block b hl (fun e => hb (Option.some.inj e))
  obtain ⟨es, clock, h1, h2, h3, h4⟩ := h.own
  have hmlt : bm < w.heap.size := (Array.getElem?_eq_some_iff.1 h1).1
  refine ⟨(hb p (h.ne_gp hp).symm h.blk.lt).trans h.blk, ⟨es, clock, (hb bm (h.ne_gm hp).symm hmlt).trans h1, h2, h3, h4⟩, h.at_, fun x gx hx => ?_, fun x hx i hi => ?_, h.inj, h.fp, h.fm, fun b hbF => Nat.lt_of_lt_of_le (h.flt b hbF) hgr.size⟩
  · obtain ⟨r1, r2, r3⟩ := h.rows x gx hx
    by_cases e : x = k
    · subst e
      rw [hp] at hx
      cases hx
      exact ⟨by rw [pageOf_write m x o l ho]; exact hg, r2, r3⟩
    · have hne : gx ≠ g := fun e2 => e (h.inj x k g (e2 ▸ hx) hp)
      rw [pageOf_other m k x o l ho e]
      exact ⟨(hb gx hne r1.lt).trans r1, r2, r3⟩
  · have e : x ≠ k := fun e => by rw [e, hp] at hx; cases hx
    rw [writeM_out]
    · exact h.zero x hx i hi
    · rcases Nat.lt_or_gt_of_ne e with h5 | h5 <;> omega
end PM
theorem PMem.keep {w w' : World} {p : Nat} {ram : Sp} {m : Mm} {F : Nat → Prop} {N : Nat} (h : PMem w p ram m F N) (hs : w.heap.size ≤ w'.heap.size) (hb : ∀ b, F b → b < w.heap.size → w'.heap[b]? = w.heap[b]?) : PMem w' p ram m F N := by
  obtain ⟨bm, D, pg, h⟩ := h
  exact ⟨bm, D, pg, h.keep hs (fun b hF => hb b hF (h.flt b hF))⟩
theorem PMem.more {w : World} {p : Nat} {ram : Sp} {m : Mm} {F : Nat → Prop} {N N' : Nat} (h : PMem w p ram m F N) (hN : N ≤ N') : PMem w p ram m F N' := by
  obtain ⟨bm, D, pg, h⟩ := h
  exact ⟨bm, D, pg, h.more hN⟩
theorem PMem.flt {w : World} {p : Nat} {ram : Sp} {m : Mm} {F : Nat → Prop} {N : Nat} (h : PMem w p ram m F N) : ∀ b, F b → b < w.heap.size := by
  obtain ⟨bm, D, pg, h⟩ := h
  exact h.flt
theorem PMem.below {w w' : World} {p : Nat} {ram : Sp} {m : Mm} {F : Nat → Prop} {N : Nat} (h : PMem w p ram m F N) {n : Nat} (c : Below n w w') (hn : w.heap.size ≤ n) : PMem w' p ram m F N :=
  h.keep c.size fun b _ hl => c.block b (Nat.lt_of_lt_of_le hl hn)
end Go.Proofs.YtipdmhppadapkaaGreatDoor
/-
  Walks: (*Mem).ask of both.
-/
namespace Go.Proofs.YtipdmhppadapkaaGreatDoor
open Go.RowKit

def askErr (ram : Sp) (a n : Nat) : Int := if 1048576 < n then 2 else if 0 < n ∧ (Sp.mk a n).within ram = false then 90 else 0
theorem ask_ok {ram : Sp} {a n : Nat} (h : askErr ram a n = 0) : n ≤ 1048576 ∧ (n = 0 ∨ (ram.base ≤ a ∧ a + n ≤ ram.base + ram.size ∧ a + n ≤ 18446744073709551616)) := by
  unfold askErr at h
  split at h
  · cases h
  · rename_i h1
    refine ⟨by omega, ?_⟩
    split at h
    · cases h
    · rename_i h2
      by_cases h0 : n = 0
      · exact .inl h0
      · right
        have hw : (Sp.mk a n).within ram = true := by
          cases hc : (Sp.mk a n).within ram with
          | true => rfl
          | false => exact absurd ⟨by omega, hc⟩ h2
        simp only [Sp.within, decide_eq_true_eq, Sp.good_iff] at hw
        omega
theorem run_sp (a n : Int) (w : World) : (Instr.build 61 #[(0, .int .u64 a), (1, .int .u64 n)]).run Tryz.prog w = .ok (.agg #[.int .u64 a, .int .u64 n]) w := by
  have := run_build_rows (P := Tryz.prog) w (t := 61) (z := #[.int .u64 0, .int .u64 0]) #[(0, .int .u64 a), (1, .int .u64 n)] [.int .u64 a, .int .u64 n] [(0, 1), (1, 1)]
    Tryz.underlying61 (by kernel_rfl) (by kernel_rfl) rfl (by simp [Rows1, Value.cells]) (by simp [flat, Value.cells])
  simpa [flat, Value.cells] using this
theorem pm_ram {w : World} {p : Nat} {ram : Sp} {v : Value} {t : TypeId} (h : Blk w p t #[.int .u64 (ram.base : Int), .int .u64 (ram.size : Int), v]) : w.rangeAt p 0 ram.cells.toList := by
  intro j v hv
  rw [Nat.zero_add, h.cell]
  match j, hv with
  | 0, hv => exact hv
  | 1, hv => exact hv

theorem mapNil (bm : Nat) (w : World) : (binOp .eql 121 (.map (some bm)) (.map none)).run Tryz.prog w = .ok (.bool false) w := by kernel_rfl
theorem pgNe (g : Nat) (w : World) : (binOp .neq 22 (pgV g) (.slice none 0 0)).run Tryz.prog w = .ok (.bool true) w := by kernel_rfl
theorem pgEq (g : Nat) (w : World) : (binOp .eql 22 (pgV g) (.slice none 0 0)).run Tryz.prog w = .ok (.bool false) w := by kernel_rfl

set_option maxRecDepth 100000 in
set_option maxHeartbeats 1000000 in
theorem mask_any (p : Nat) (ram : Sp) (okr : ram.ok) (bm : Nat) (a n : Nat) (ha : a < 18446744073709551616) (hn : n < 18446744073709551616) (w : World) (hb : Blk w p 123 #[.int .u64 (ram.base : Int), .int .u64 (ram.size : Int), .map (some bm)]) :
    Calls Tryz.prog 70 #[.pointer (some ⟨p, 0, none⟩), .int .u64 (a : Int), .int .u64 (n : Int)] w fun e w' => e = .returned (.int .i64 (askErr ram a n)) ∧ Below w.heap.size w w' := by
  have c2 : w.cell? ⟨p, 2, none⟩ = some (.map (some bm)) := (hb.cell 2).trans rfl
  have hr := pm_ram hb
  have hmn := mapNil bm
  by_cases h1 : 1048576 < n
  · have he : Hid (askErr ram a n = 2) := Lib.hid (by rw [askErr, if_pos h1])
    have hd : decide ((1048576 : Int) < (n : Int)) = true := decide_eq_true (by omega)
    clear h1 hb
    go_enter Tryz.func70, Tryz.ntmps70
    go_wp2
    go_ret
    exact ⟨ret_int he.out.symm, Below.refl _ _⟩
  · have hd : decide ((1048576 : Int) < (n : Int)) = false := decide_eq_false (by omega)
    by_cases h0 : n = 0
    · subst h0
      have he : Hid (askErr ram a 0 = 0) := Lib.hid (by rw [askErr, if_neg h1, if_neg (by omega)])
      clear h1 hb hd
      go_enter Tryz.func70, Tryz.ntmps70
      go_wp2
      go_ret
      exact ⟨ret_int he.out.symm, Below.refl _ _⟩
    · have hpos : 0 < n := by omega
      have he : Hid (askErr ram a n = if (Sp.mk a n).within ram then 0 else 90) := Lib.hid (by
        rw [askErr, if_neg h1]
        cases (Sp.mk a n).within ram
        · rw [if_pos ⟨by omega, rfl⟩]; rfl
        · rw [if_neg (by simp)]; rfl)
      have hw := within_any ⟨a, n⟩ ram ⟨ha, hn⟩ okr w
      obtain ⟨q, hq⟩ : ∃ q, q = (Sp.mk a n).within ram := ⟨_, rfl⟩
      rw [← hq] at hw he
      clear h1 hb h0 hq
      have hd0 : decide ((0 : Int) < (n : Int)) = true := decide_eq_true (by omega)
      go_enter Tryz.func70, Tryz.ntmps70
      go_wp2_with (first
        | ((with_reducible refine at_load 61 ?_); refine wpList_load_midW rfl 61 _ rfl p 0 rfl ram.cells.toList _ hr Tryz.underlying61 rfl infSpan ?_)
        | ((with_reducible refine at_build 61 ?_); refine wpList_buildV _ rfl #[(0, .int .u64 (a : Int)), (1, .int .u64 (n : Int))] rfl (by simp [Act.eval]) (run_sp _ _ _) ?_))
      refine Calls.mono hw ?_
      rintro e w2 ⟨rfl, hB⟩
      clear hw hr c2
      cases q
      all_goals
        go_wp2
        go_ret
        exact ⟨ret_int he.out.symm, hB⟩
end Go.Proofs.YtipdmhppadapkaaGreatDoor
/-
  Walk: (*Mem).Read.
-/
namespace Go.Proofs.YtipdmhppadapkaaGreatDoor
open Go.RowKit

theorem el8m : Elem Tryz.prog 22 5 (.int .u8 0) 1 1 := Elem.of (by kernel_rfl) (by kernel_rfl) rfl (by omega)
theorem made_zero (n : Nat) : madeCells (Value.int .u8 0).cells (n * 1) = (bcells (List.replicate n 0)).toArray := by
  apply Array.ext
  · simp [madeCells, bcells]
  · intro k h1 h2
    simp only [madeCells, Array.getElem_map, Array.getElem_range, bcells, List.getElem_toArray, List.map_replicate, List.getElem_replicate]
    rw [show (Value.int IntKind.u8 0).cells.size = 1 from rfl, Nat.mod_one]; rfl
def BErr (w : World) (L : List UInt8) (x : Int) (e : Ending) (w' : World) : Prop := ∃ A c, e = .returned (.tuple #[.slice A L.length c, .int .i64 x]) ∧ L.length ≤ c ∧ Rd w' w'.heap.size 1 A L.length (bcells L) ∧ Below w.heap.size w w'
/-- .. and the slice is new -/
def BErrN (w : World) (L : List UInt8) (x : Int) (e : Ending) (w' : World) : Prop := ∃ A c, e = .returned (.tuple #[.slice A L.length c, .int .i64 x]) ∧ L.length ≤ c ∧ Rd w' w'.heap.size 1 A L.length (bcells L) ∧ Below w.heap.size w w' ∧ ∀ y, A = some y → w.heap.size ≤ y.block
def readV (ram : Sp) (m : Mm) (a n : Nat) : List UInt8 := if askErr ram a n = 0 then readM m a n else []
theorem run_slice_lhK {P : Program} (w : World) (t : TypeId) (ht : P.underlying t = some (.slice (P.elem t))) (hs : (P.info? (P.elem t)).map (·.size) = some 1) (b off n c f k : Nat) (kl kh : IntKind) (L H : Int) (hL : L = f) (hH : H = ((f + k : Nat) : Int)) (hf : f + k ≤ c) :
    (Instr.slice t (.slice (some ⟨b, off, none⟩) n c) (some (.int kl L)) (some (.int kh H)) none).run P w = .ok (.slice (some (if c = f then ⟨b, off, none⟩ else ⟨b, off + f, none⟩)) k (c - f)) w := by
  subst hL hH
  obtain ⟨inf, hinf, hsz⟩ := Option.map_eq_some_iff.1 hs
  rw [run_slice_lh w t _ n c ht kl kh (f : Int) ((f + k : Nat) : Int) (by omega) (by omega) (by omega)]
  have e1 : ((f + k : Nat) : Int).toNat = f + k := by omega
  have e2 : (f : Int).toNat = f := by omega
  have es : (sizeOf (P.elem t)).run P w = .ok 1 w := by simp [sizeOf, typeInfo, hinf, hsz]
  rw [e1, e2, es]
  simp only [Result.andThen, sliced, Option.map_some, Nat.mul_one, Addr.add]
  have e3 : f + k - f = k := by omega
  rw [e3]
  by_cases hc : c = f
  · rw [if_pos hc, if_pos hc]
  · rw [if_neg hc, if_neg hc]
    by_cases h0 : f = 0
    · simp [h0]
    · rw [if_neg h0]
theorem run_slice_loK {P : Program} (w : World) (t : TypeId) (ht : P.underlying t = some (.slice (P.elem t))) (hs : (P.info? (P.elem t)).map (·.size) = some 1) (b off n c f : Nat) (kl : IntKind) (L : Int) (hL : L = f) (hf : f ≤ n) :
    (Instr.slice t (.slice (some ⟨b, off, none⟩) n c) (some (.int kl L)) none none).run P w = .ok (.slice (some (if c = f then ⟨b, off, none⟩ else ⟨b, off + f, none⟩)) (n - f) (c - f)) w := by
  subst hL
  obtain ⟨inf, hinf, hsz⟩ := Option.map_eq_some_iff.1 hs
  rw [run_slice_l w t _ n c ht kl (f : Int) (by omega) (by omega)]
  have e2 : (f : Int).toNat = f := by omega
  have es : (sizeOf (P.elem t)).run P w = .ok 1 w := by simp [sizeOf, typeInfo, hinf, hsz]
  rw [e2, es]
  simp only [Result.andThen, sliced, Option.map_some, Nat.mul_one, Addr.add]
  by_cases hc : c = f
  · rw [if_pos hc, if_pos hc]
  · rw [if_neg hc, if_neg hc]
    by_cases h0 : f = 0
    · simp [h0]
    · rw [if_neg h0]

theorem readM_add (m : Mm) (a k s : Nat) : readM m a (k + s) = readM m a k ++ readM m (a + k) s := by
  apply List.ext_getElem?
  intro i
  by_cases h1 : i < k
  · rw [List.getElem?_append_left (by rw [readM_length]; exact h1), readM_get _ _ _ _ h1, readM_get _ _ _ _ (by omega)]
  · rw [List.getElem?_append_right (by rw [readM_length]; omega), readM_length]
    by_cases h2 : i < k + s
    · rw [readM_get _ _ _ _ h2, readM_get _ _ _ _ (by omega), show a + k + (i - k) = a + i by omega]
    · rw [List.getElem?_eq_none (by rw [readM_length]; omega), List.getElem?_eq_none (by rw [readM_length]; omega)]
theorem readM_page (m : Mm) (x q o s : Nat) (hx : x = 4096 * q + o) (hs : o + s ≤ 4096) : readM m x s = ((pageOf m q).drop o).take s := by
  apply List.ext_getElem?
  intro i
  by_cases h : i < s
  · rw [readM_get _ _ _ _ h, List.getElem?_take, if_pos h, List.getElem?_drop, pageOf_get _ _ _ (by omega), hx, Nat.add_assoc]
  · rw [List.getElem?_eq_none (by rw [readM_length]; omega), List.getElem?_take, if_neg h]
theorem readM_zero (m : Mm) (x s : Nat) (h : ∀ i, i < s → m (x + i) = 0) : readM m x s = List.replicate s 0 := by
  apply List.ext_getElem?
  intro i
  by_cases hi : i < s
  · rw [readM_get _ _ _ _ hi, h i hi, List.getElem?_replicate, if_pos hi]
  · rw [List.getElem?_eq_none (by rw [readM_length]; omega), List.getElem?_eq_none (by rw [List.length_replicate]; omega)]
theorem rep_split (n k s : Nat) (h : k + s ≤ n) : List.replicate (n - k) (0 : UInt8) = List.replicate s 0 ++ List.replicate (n - (k + s)) 0 := by
  rw [List.replicate_append_replicate]; congr 1; omega
theorem read_skip (m : Mm) (a n k s : Nat) (h : k + s ≤ n) (hz : ∀ i, i < s → m (a + k + i) = 0) : readM m a k ++ List.replicate (n - k) 0 = readM m a (k + s) ++ List.replicate (n - (k + s)) 0 := by
  rw [readM_add, readM_zero m (a + k) s hz, rep_split n k s h, List.append_assoc]
theorem read_step (m : Mm) (a n k s q o : Nat) (h : k + s ≤ n) (hx : a + k = 4096 * q + o) (hs : o + s ≤ 4096) :
    splice (bcells (readM m a k ++ List.replicate (n - k) 0)) k ((bcells ((pageOf m q).drop o)).take s) = bcells (readM m a (k + s) ++ List.replicate (n - (k + s)) 0) := by
  have e0 : (bcells ((pageOf m q).drop o)).take s = bcells (readM m (a + k) s) := by rw [readM_page m (a + k) q o s hx hs]; simp [bcells]
  have l1 : (bcells (readM m a k)).length = k := by rw [bcells_length, readM_length]
  have l2 : (bcells (readM m (a + k) s)).length = s := by rw [bcells_length, readM_length]
  have l3 : (bcells (readM m a k ++ List.replicate s 0)).length = k + s := by rw [bcells_length, List.length_append, readM_length, List.length_replicate]
  have e1 : bcells (readM m a k ++ List.replicate (n - k) 0) = bcells (readM m a k) ++ bcells (List.replicate (n - k) 0) := bcells_append _ _
  have e2 : bcells (readM m a k ++ List.replicate (n - k) 0) = bcells (readM m a k ++ List.replicate s 0) ++ bcells (List.replicate (n - (k + s)) 0) := by
    rw [rep_split n k s h, ← List.append_assoc, bcells_append]
  have t1 : (bcells (readM m a k ++ List.replicate (n - k) 0)).take k = bcells (readM m a k) := by rw [e1, List.take_left' l1]
  have t2 : (bcells (readM m a k ++ List.replicate (n - k) 0)).drop (k + s) = bcells (List.replicate (n - (k + s)) 0) := by rw [e2, List.drop_left' l3]
  rw [e0, splice, l2, t1, t2, readM_add, bcells_append, bcells_append, List.append_assoc]

section
variable {P : Program} {o : Oper} {a : Act} {w : World} {t : TypeId} {x y z : Tmp} {v l h r : Value}
theorem reg_sliceLH (ht : P.underlying t = some (.slice (P.elem t))) (ho : o.op = .slice t (.tmp x) (some (.tmp y)) (some (.tmp z)) none) (hx : a.tmps[x]?.getD undef = v) (hy : a.tmps[y]?.getD undef = l) (hz : a.tmps[z]?.getD undef = h)
    (hq : (Instr.slice t v (some l) (some h) none).run P w = .ok r w) : (execOp a.eval o).run P w = .ok (.value r) w := by
  simp [execOp, ho, Act.eval, hx, hy, hz, run_sliceAt_slice _ _ _ _ _ _ ht, hq]
theorem reg_sliceL (ht : P.underlying t = some (.slice (P.elem t))) (ho : o.op = .slice t (.tmp x) (some (.tmp y)) none none) (hx : a.tmps[x]?.getD undef = v) (hy : a.tmps[y]?.getD undef = l)
    (hq : (Instr.slice t v (some l) none none).run P w = .ok r w) : (execOp a.eval o).run P w = .ok (.value r) w := by
  simp [execOp, ho, Act.eval, hx, hy, run_sliceAt_slice _ _ _ _ _ _ ht, hq]
end

set_option maxRecDepth 100000 in
set_option maxHeartbeats 4000000 in
theorem mread_any (p : Nat) (ram : Sp) (okr : ram.ok) (m : Mm) (F : Nat → Prop) (N : Nat) (ad n : Nat) (ha : ad < 18446744073709551616) (hn : n < 18446744073709551616) (w : World) (hM : PMem w p ram m F N) :
    Calls Tryz.prog 25 #[.pointer (some ⟨p, 0, none⟩), .int .u64 (ad : Int), .int .u64 (n : Int)] w (BErrN w (readV ram m ad n) (askErr ram ad n)) := by
  obtain ⟨bm, D, pg, hP⟩ := hM
  go_enter Tryz.func25, Tryz.ntmps25
  go_wp2_with fail
  refine (mask_any p ram okr bm ad n ha hn w hP.blk).mono ?_
  rintro e W1 ⟨rfl, B1⟩
  have hP1 := hP.below B1 (Nat.le_refl _)
  have hFlt : ∀ b, F b → b < w.heap.size := hP.flt
  obtain ⟨E, hE⟩ : ∃ E, E = askErr ram ad n := ⟨_, rfl⟩
  rw [← hE]
  by_cases h0 : E = 0
  · have hL : Hid (readV ram m ad n = readM m ad n) := Lib.hid (by rw [readV, ← hE, if_pos h0])
    have HE := Lib.hid hE
    obtain ⟨hn1, hin⟩ := ask_ok (by rw [← hE]; exact h0)
    have HIN := Lib.hid hin
    subst h0
    clear hE hP hin
    go_wp2_with (at_make; refine wpList_makeN W1 el8m rfl _ _ rfl .u64 .u64 _ _ n n rfl rfl rfl rfl (by omega) (by omega) (by omega) ?_; intro w1 hb1 hs1 hB1)
    rw [made_zero] at hb1
    have hP2 := hP1.below hB1 (Nat.le_refl _)
    have B2 := B1.trans (hB1.mono B1.size)
    have hg : w.heap.size ≤ W1.heap.size := B1.size
    have hFg : ¬ F W1.heap.size := fun h => Nat.lt_irrefl _ (hP1.flt _ h)
    generalize W1.heap.size = g at *
    clear B1 hP1 hs1 hB1
    go_loopw [10] (fun v wr => ∃ k : Nat, k ≤ n ∧ v = .int .u64 k ∧ Blk wr g 5 (bcells (readM m ad k ++ List.replicate (n - k) 0)).toArray ∧ Below w.heap.size w wr ∧ PM wr p ram m F N bm D pg) (fun v _ => n - (intOf v).toNat)
    case atStart => exact ⟨0, Nat.zero_le _, rfl, by simpa [readM] using hb1, B2, hP2⟩
    case round =>
      obtain ⟨k, hk, rfl, hb, hB, hP3⟩ := hrel
      by_cases hlt : k < n
      · have hin2 : ad + n ≤ 18446744073709551616 := by have := HIN.out; omega
        obtain ⟨x, hx⟩ : ∃ x, x = ad + k := ⟨_, rfl⟩
        obtain ⟨q, hq⟩ : ∃ q, q = x / 4096 := ⟨_, rfl⟩
        obtain ⟨o, ho⟩ : ∃ o, o = x % 4096 := ⟨_, rfl⟩
        obtain ⟨y, hy⟩ : ∃ y, y = 4096 - o := ⟨_, rfl⟩
        obtain ⟨z, hz⟩ : ∃ z, z = n - k := ⟨_, rfl⟩
        have hq64 : q < 18446744073709551616 := by omega
        have ho4 : o < 4096 := by omega
        have hxq : ad + k = 4096 * q + o := by omega
        have hx1 : IntKind.u64.wrap ((ad : Int) + (k : Int)) = (x : Int) := by rw [IntWalk.u64_in _ (by omega)]; omega
        have hx2 : (x : Int) % 4096 = (o : Int) := by omega
        have hx3 : (x : Int) / 4096 = (q : Int) := by omega
        have hy1 : (4096 : Int) - (o : Int) = (y : Int) := by omega
        have hz1 : (n : Int) - (k : Int) = (z : Int) := by omega
        have hlk := hP3.look q hq64
        have c2 : wr.cell? ⟨p, 2, none⟩ = some (.map (some bm)) := (hP3.blk.cell 2).trans rfl
        have hcase : ∃ s : Nat, ((y < z ∧ s = y) ∨ (z ≤ y ∧ s = z)) ∧ 1 ≤ s ∧ k + s ≤ n ∧ o + s ≤ 4096 := by
          rcases Nat.lt_or_ge y z with h1 | h1
          · exact ⟨y, .inl ⟨h1, rfl⟩, by omega, by omega, by omega⟩
          · exact ⟨z, .inr ⟨h1, rfl⟩, by omega, by omega, by omega⟩
        obtain ⟨s, hcs, hs1, hkn, hos⟩ := hcase
        have hks : IntKind.u64.wrap ((k : Int) + (s : Int)) = ((k + s : Nat) : Int) := by rw [IntWalk.u64_in _ (by omega)]; omega
        have HXQ := Lib.hid hxq
        clear hx hq ho hy hz hin2 hxq
        cases hpg : pg q with
        | none =>
          rw [hpg] at hlk
          have hzz : Hid (∀ i, i < s → m (ad + k + i) = 0) := Lib.hid (fun i hi => by rw [HXQ.out, Nat.add_assoc]; exact hP3.zero q hpg (o + i) (by omega))
          clear hpg
          rcases hcs with ⟨hyz, rfl⟩ | ⟨hyz, rfl⟩
          all_goals
            go_wp2
            go_roundw
            case rel => exact ⟨_, hkn, by first | rfl | go_num, by rw [← read_skip m ad n k _ hkn hzz.out]; exact hb, hB, hP3⟩
            case measure => simp [intOf]; omega
        | some g2 =>
          rw [hpg] at hlk
          have hrow := hP3.rows q g2 hpg
          have hgg : ¬ g2 = g := fun e => hFg (e ▸ hrow.2.1)
          have hne := pgNe g2
          unfold pgV at hlk hne
          clear hpg
          rcases hcs with ⟨hyz, hsy⟩ | ⟨hyz, hsy⟩
          all_goals
            subst hsy
            rename_i s
            go_wp2
            refine Flow.wp_region_flow (w.heap.size) [(10, fun b => b = g)] [(10, fun W => Blk W g 5 ((bcells (readM m ad k ++ List.replicate (n - k) 0)).toArray)), (10, fun W => Blk W g2 5 ((bcells (pageOf m q)).toArray))] (by kernel_rfl) (by kernel_rfl) hB.drew.size (Flow.nz_cons (by rintro b rfl; exact hg) Flow.nz_nil) (Flow.facts_cons (hb.drew) (Flow.kept_blk id) (Flow.fz_cons (Flow.no_follow (by kernel_rfl)) Flow.fz_nil) (Flow.facts_cons (hrow.1.drew) (Flow.kept_blk id) (Flow.fz_cons (Flow.no_follow (by kernel_rfl)) Flow.fz_nil) Flow.facts_nil)) ?_
            refine Flow.pass_old (X := .slice (some ⟨g, 0, none⟩) n n) 9 (Flow.met_none rfl) (.inl rfl) (by kernel_rfl) (by kernel_rfl) rfl ?_
            refine Flow.pass_old (X := .int .u64 (k : Int)) 10 (Flow.met_none rfl) (.inl rfl) (by kernel_rfl) (by kernel_rfl) rfl ?_
            refine Flow.pass_old (X := .int .u64 (k : Int)) 10 (Flow.met_none rfl) (.inl rfl) (by kernel_rfl) (by kernel_rfl) rfl ?_
            refine Flow.pass_old (X := .int .u64 (s : Int)) 12 (Flow.met_none rfl) (.inl rfl) (by kernel_rfl) (by kernel_rfl) rfl ?_
            refine Flow.pass_val (.int .u64 ((k + s : Nat) : Int)) (Flow.met_none rfl) (fun a W hH => ?_) ?_
            · have e0 := Flow.see_new 47 2 hH.sees (by kernel_rfl) (by kernel_rfl) rfl rfl
              have e1 := Flow.see_new 48 3 hH.sees (by kernel_rfl) (by kernel_rfl) rfl rfl
              go_simp; first | done | rfl | (rw [hks]; done)
            refine Flow.pass_val (.slice (some (if n = k then ⟨g, 0, none⟩ else ⟨g, 0 + k, none⟩)) s (n - k)) (Flow.met_none rfl) (fun a W hH => ?_) ?_
            · have e0 := Flow.see_new 45 0 hH.sees (by kernel_rfl) (by kernel_rfl) rfl rfl
              have e1 := Flow.see_new 46 1 hH.sees (by kernel_rfl) (by kernel_rfl) rfl rfl
              have e2 := Flow.see_new 49 4 hH.sees (by kernel_rfl) (by kernel_rfl) rfl rfl
              have hq := run_slice_lhK (P := Tryz.prog) W 22 (by kernel_rfl) (by kernel_rfl) g 0 n n k s .u64 .u64 (k : Int) ((k + s : Nat) : Int) rfl rfl hkn; exact reg_sliceLH (by kernel_rfl) rfl e0 e1 e2 hq
            refine Flow.pass_old (X := .slice (some ⟨g2, 0, none⟩) 4096 4096) 13 (Flow.met_none rfl) (.inl rfl) (by kernel_rfl) (by kernel_rfl) rfl ?_
            refine Flow.pass_old (X := .int .u64 (x : Int)) 11 (Flow.met_none rfl) (.inl rfl) (by kernel_rfl) (by kernel_rfl) rfl ?_
            refine Flow.pass_val (.int .u64 (o : Int)) (Flow.met_none rfl) (fun a W hH => ?_) ?_
            · have e0 := Flow.see_new 52 7 hH.sees (by kernel_rfl) (by kernel_rfl) rfl rfl
              go_simp; first | done | rfl | omega | (rw [Int.tmod_eq_emod_of_nonneg (by omega)]; omega)
            refine Flow.pass_val (.slice (some (if 4096 = o then ⟨g2, 0, none⟩ else ⟨g2, 0 + o, none⟩)) (4096 - o) (4096 - o)) (Flow.met_none rfl) (fun a W hH => ?_) ?_
            · have e0 := Flow.see_new 51 6 hH.sees (by kernel_rfl) (by kernel_rfl) rfl rfl
              have e1 := Flow.see_new 53 8 hH.sees (by kernel_rfl) (by kernel_rfl) rfl rfl
              have hq := run_slice_loK (P := Tryz.prog) W 22 (by kernel_rfl) (by kernel_rfl) g2 0 4096 4096 o .u64 (o : Int) rfl (by omega); exact reg_sliceL (by kernel_rfl) rfl e0 e1 hq
            refine Flow.pass_list (fun _ W => Blk W g 5 (bcells (readM m ad (k + s) ++ List.replicate (n - (k + s)) 0)).toArray) (Flow.kept_of (fun _ _ _ c h => h.chg c id) (Flow.kz_cons (Flow.no_follow (by kernel_rfl)) Flow.kz_nil)) (Flow.met_none rfl) (fun a W hH => ?_) ?_
            · have e0 := Flow.see_new 50 5 hH.sees (by kernel_rfl) (by kernel_rfl) rfl rfl
              have e1 := Flow.see_new 54 9 hH.sees (by kernel_rfl) (by kernel_rfl) rfl rfl
              have fa0 : (fun W => Blk W g 5 ((bcells (readM m ad k ++ List.replicate (n - k) 0)).toArray)) W := hH.fact _ (List.mem_of_getElem? (i := 0) rfl) rfl
              have fa1 : (fun W => Blk W g2 5 ((bcells (pageOf m q)).toArray)) W := hH.fact _ (List.mem_of_getElem? (i := 1) rfl) rfl
              rw [if_neg (by omega), Nat.zero_add] at e0 e1
              have hrd := (fa1.rd (size := 1) (n := 4096) (by rw [List.size_toArray, bcells_length, pageOf_length])).cut (k := o) (cap := 4096) (Nat.le_refl _)
              rw [if_neg (by omega), Nat.mul_one, List.toList_toArray] at hrd
              have hde : (bcells (pageOf m q)).drop o = bcells ((pageOf m q).drop o) := by simp [bcells]
              rw [hde] at hrd
              have hA : Option.map (fun x : Addr => x.add o) (some ⟨g2, 0, none⟩) = some ⟨g2, o, none⟩ := by rw [Option.map_some, Addr.add_mid, Nat.zero_add]
              rw [hA] at hrd
              refine wpList_copyAt W Tryz.underlying22 (by kernel_rfl) rfl _ _ rfl g k _ fa0 _ _ _ (by simpa [Act.eval] using e0) W.heap.size _ _ _ _ (by simpa [Act.eval] using e1) hrd (bcells_one _) s (by show s = min (4096 - o) s; omega) (fun _ => rfl) (by rw [List.size_toArray, bcells_length, List.length_append, readM_length, List.length_replicate]; omega) ?_
              intro W2 h2 hg2 _
              rw [List.toList_toArray, read_step m ad n k s q o hkn HXQ.out hos] at h2
              exact Flow.qq_nil ⟨_, rfl, Chg.grown hg2 (by rintro k h; cases h; rfl), h2⟩
            refine Flow.pass_end [none, none, none, none, none, none, none, none, none, none, none, none, none, none, none, none, none, none, none, none, none, none, none, none, none, none, none, none, none, none, none, none, none, none, none, none, none, none, none, none, none, none, none, none, none, some 45, some 46, some 47, some 48, some 49, some 50, some 51, some 52, some 53, some 54, some 55, none, none, none, none] (by kernel_rfl) ?_
            intro f gg w9 hB9 hfa hT hfg
            have hb9 : Blk w9 g 5 (bcells (readM m ad (k + s) ++ List.replicate (n - (k + s)) 0)).toArray := hT 10 _ (by kernel_rfl) rfl
            have B9 := hB.drew.trans hB9
            have hP9 : PM w9 p ram m F N bm D pg := hP3.keep hB9.size (fun b hF => hB9.block b (hFlt b hF))
            simp only [Reg.sel]
            clear hT hfg hfa
            go_wp2
            go_roundw
            case rel => exact ⟨_, hkn, by first | rfl | go_num, hb9, B9, hP9⟩
            case measure => simp [intOf]; omega
      · obtain rfl : k = n := by omega
        go_wp2
        go_ret2
        rw [hL.out, ← HE.out]
        unfold BErrN
        refine ⟨some ⟨g, 0, none⟩, k, ?_, by rw [readM_length]; exact Nat.le_refl _, ?_, hB, fun y hy => by cases hy; exact hg⟩
        · rw [readM_length]; rfl
        · have h1 := hb.rd (size := 1) (n := k) (by simp [bcells, readM])
          rw [readM_length]
          simpa using h1
  · have hL : Hid (readV ram m ad n = []) := Lib.hid (by rw [readV, ← hE, if_neg h0])
    have hne : (E != 0) = true := by simpa using h0
    have HE := Lib.hid hE
    clear hE h0 hP hP1
    go_wp2
    go_ret2
    rw [hL.out, ← HE.out]
    exact ⟨none, 0, rfl, Nat.le_refl _, Rd.nil _ _ _ _, B1, fun y hy => by cases hy⟩
end Go.Proofs.YtipdmhppadapkaaGreatDoor
/-
  Walk: (*Mem).Write.
-/
namespace Go.Proofs.YtipdmhppadapkaaGreatDoor
open Go.RowKit

theorem rd_of_range {w : World} {b off B : Nat} {xs : List Value} (h : w.rangeAt b off xs) (hb : b < B) : Rd w B 1 (some ⟨b, off, none⟩) xs.length xs :=
  ⟨by simp, fun k v hv => ⟨_, rfl, hb, by rw [Addr.add_mid]; exact h k v hv⟩⟩
theorem range_chg {w w' : World} {b off : Nat} {xs : List Value} (h : w.rangeAt b off xs) (hb : w'.heap[b]? = w.heap[b]?) : w'.rangeAt b off xs := fun j v hv => (World.cell?_of_block hb).trans (h j v hv)
/-- a Mem behind a call that may have written it -/
def MAfter (w w' : World) (p : Nat) (ram : Sp) (m : Mm) (F : Nat → Prop) (N : Nat) : Prop := ∃ F', PMem w' p ram m F' N ∧ Chg F w w' ∧ (∀ b, F b → F' b) ∧ ∀ b, F' b → F b ∨ w.heap.size ≤ b
def writeV (ram : Sp) (m : Mm) (a : Nat) (l : List UInt8) : Mm := if askErr ram a l.length = 0 then writeM m a l else m
theorem splice_bytes (L X : List UInt8) (o s : Nat) (_hs : s ≤ X.length) : splice (bcells L) o ((bcells X).take s) = bcells (L.take o ++ X.take s ++ L.drop (o + (X.take s).length)) := by
  have e : (bcells X).take s = bcells (X.take s) := by simp [bcells]
  rw [e, splice, bcells_length, bcells_append, bcells_append]
  simp [bcells, List.append_assoc]
theorem take_step (l : List UInt8) (j s : Nat) : l.take j ++ (l.drop j).take s = l.take (j + s) := by rw [List.take_add]
theorem wpList_copyG {P : Program} {ops : Array Oper} {rest : List Oper} {o : Oper} {a : Act} {Q : Exit → Act → World → Prop} (w : World) {dT sT e te : TypeId} (hu : P.underlying dT = some (.slice e)) (hsz : (P.info? e).map (·.size) = some 1) (hgd : o.guard = none) (d s : Operand)
    (ho : o.op = .call { callee := .builtin .copy, args := #[d, s], argTypes := #[dT, sT] })
    (g off dn dc : Nat) (L X : List UInt8) (hb : Blk w g te (bcells L).toArray) (hd : a.eval d = .slice (some ⟨g, off, none⟩) dn dc)
    (b o2 m c2 : Nat) (hx : a.eval s = .slice (some ⟨b, o2, none⟩) m c2) (hm : m = X.length) (hr : w.rangeAt b o2 (bcells X)) (hbl : b < w.heap.size)
    (k : Nat) (hk : k = Nat.min m dn) (hfit : off + k ≤ L.length)
    (h : ∀ w', Blk w' g te (bcells (L.take off ++ X.take k ++ L.drop (off + (X.take k).length))).toArray → w.grownBy w' (some g) → w'.heap.size = w.heap.size → wpList P ops Q rest (a.put o.dst (.int .i64 (k : Int))) w') :
    wpList P ops Q (o :: rest) a w := by
  have hR : Rd w w.heap.size 1 (some ⟨b, o2, none⟩) m (bcells X) := by
    have := rd_of_range hr hbl
    rwa [bcells_length, ← hm] at this
  refine wpList_copyAt w hu hsz hgd d s ho g off _ hb _ _ _ hd w.heap.size _ _ _ _ hx hR (bcells_one _) k hk (fun _ => rfl) (by rw [List.size_toArray, bcells_length]; exact hfit) ?_
  intro w' h1 h2 h3
  rw [List.toList_toArray, splice_bytes L X off k (by rw [hk, ← hm]; exact Nat.min_le_left _ _)] at h1
  exact h w' h1 h2 h3

theorem nilEq (w : World) : (binOp .eql 22 (.slice none 0 0) (.slice none 0 0)).run Tryz.prog w = .ok (.bool true) w := by kernel_rfl

set_option maxRecDepth 100000 in
set_option maxHeartbeats 1000000 in
theorem mwrite_any (p : Nat) (ram : Sp) (okr : ram.ok) (hr40 : ram.base + ram.size ≤ 1099511627776) (m : Mm) (F : Nat → Prop) (N : Nat) (ad : Nat) (A : Option Addr) (n c : Nat) (l : List UInt8) (had : ad < 18446744073709551616) (hl : n = l.length) (hnc : n ≤ c) (hc : c ≤ 9223372036854775807)
    (hN : N + n < maxLen) (w : World) (hR : Rd w w.heap.size 1 A n (bcells l)) (hfar : 0 < n → ∀ x, A = some x → ¬ F x.block) (hM : PMem w p ram m F N) :
    Calls Tryz.prog 57 #[.pointer (some ⟨p, 0, none⟩), .int .u64 (ad : Int), .slice A n c] w fun e w' => e = .returned (.int .i64 (askErr ram ad n)) ∧ MAfter w w' p ram (writeV ram m ad l) F (N + n) := by
  obtain ⟨bm, D, pg, hP⟩ := hM
  have HN := Lib.hid hN
  have HL := Lib.hid hl
  clear hN hl
  have hcv : IntKind.u64.wrap (n : Int) = (n : Int) := IntWalk.u64_in _ (by omega)
  go_enter Tryz.func57, Tryz.ntmps57
  go_wp2_with fail
  refine (mask_any p ram okr bm ad n had (by omega) w hP.blk).mono ?_
  rintro e W1 ⟨rfl, B1⟩
  have hP1 := hP.below B1 (Nat.le_refl _)
  obtain ⟨E, hE⟩ : ∃ E, E = askErr ram ad n := ⟨_, rfl⟩
  rw [← hE]
  have C1 : Chg F w W1 := Chg.of_ext B1
  by_cases h0 : E = 0
  · have hV : Hid (writeV ram m ad l = writeM m ad l) := Lib.hid (by rw [writeV, ← HL.out, ← hE, if_pos h0])
    have HE := Lib.hid hE
    obtain ⟨hn1, hin⟩ := ask_ok (by rw [← hE]; exact h0)
    have hin : n = 0 ∨ ad + n ≤ 1099511627776 := by omega
    have HIN := Lib.hid hin
    have hsrc : Hid (0 < n → ∃ b off, A = some ⟨b, off, none⟩ ∧ b < w.heap.size ∧ ¬ F b ∧ w.rangeAt b off (bcells l)) := Lib.hid (fun h => by
      obtain ⟨b, off, rfl, h1, h2⟩ := hR.range (by omega)
      exact ⟨b, off, rfl, h1, hfar h _ rfl, h2⟩)
    subst h0
    clear hE hin hR hfar hcv
    go_wp2
    go_loopw [1, 2] (fun u v wr => ∃ j : Nat, j ≤ n ∧ u = .int .u64 ((ad + j : Nat) : Int) ∧ (∃ A', v = .slice A' (n - j) (c - j) ∧ (j < n → ∀ b off, A = some ⟨b, off, none⟩ → A' = some ⟨b, off + j, none⟩)) ∧
      ∃ F' D' pg' N', N' ≤ N + j ∧ PM wr p ram (writeM m ad (l.take j)) F' N' bm D' pg' ∧ Chg F w wr ∧ (∀ b, F b → F' b) ∧ ∀ b, F' b → F b ∨ w.heap.size ≤ b) (fun _ v _ => match v with | .slice _ k _ => k | _ => 0)
    case atStart => exact ⟨0, Nat.zero_le _, rfl, ⟨A, rfl, fun _ b off h => by rw [h]; rfl⟩, F, D, pg, N, Nat.le_refl _, by rw [List.take_zero, writeM_nil]; exact hP1, C1, fun _ h => h, fun _ h => .inl h⟩
    case round =>
      obtain ⟨j, hj, rfl, ⟨A', rfl, hA'⟩, F', D', pg', N', hN', hP3, hC, hF1, hF2⟩ := hrel
      by_cases hlt : j < n
      · have had2 : ad + n ≤ 1099511627776 := by have := HIN.out; omega
        obtain ⟨b0, off, rfl, hb0, hFb0, hrng⟩ := hsrc.out (by omega)
        have hA2 := hA' hlt b0 off rfl
        subst hA2
        obtain ⟨x, hx⟩ : ∃ x, x = ad + j := ⟨_, rfl⟩
        rw [← hx]
        obtain ⟨q, hq⟩ : ∃ q, q = x / 4096 := ⟨_, rfl⟩
        obtain ⟨o, ho⟩ : ∃ o, o = x % 4096 := ⟨_, rfl⟩
        obtain ⟨s, hs⟩ : ∃ s, s = Nat.min (n - j) (4096 - o) := ⟨_, rfl⟩
        have hs' : s ≤ n - j ∧ s ≤ 4096 - o ∧ 1 ≤ s := by
          have : Nat.min (n - j) (4096 - o) = min (n - j) (4096 - o) := rfl
          rw [this] at hs; omega
        have hq64 : q < 18446744073709551616 := by omega
        have hq52 : q < 4503599627370496 := by omega
        have ho4 : o < 4096 := by omega
        have hxq : x = 4096 * q + o := by omega
        have hx2 : (x : Int) % 4096 = (o : Int) := by omega
        have hx3 : (x : Int) / 4096 = (q : Int) := by omega
        have hx4 : IntKind.u64.wrap ((x : Int) + (s : Int)) = ((x + s : Nat) : Int) := by rw [IntWalk.u64_in _ (by omega)]; omega
        have hx5 : IntKind.u64.wrap (s : Int) = (s : Int) := IntWalk.u64_in _ (by omega)
        have hlk := hP3.look q hq64
        have c2 : wr.cell? ⟨p, 2, none⟩ = some (.map (some bm)) := (hP3.blk.cell 2).trans rfl
        obtain ⟨A2, hA2⟩ : ∃ A2 : Addr, A2 = if c - j = s then ⟨b0, off + j, none⟩ else ⟨b0, off + j + s, none⟩ := ⟨_, rfl⟩
        have hsl := fun W => run_slice_loK (P := Tryz.prog) W 22 (by kernel_rfl) (by kernel_rfl) b0 (off + j) (n - j) (c - j) s .i64 (s : Int) rfl hs'.1
        rw [← hA2] at hsl
        have hA3 : Hid (j + s < n → A2 = ⟨b0, off + (j + s), none⟩) := Lib.hid (fun h => by rw [hA2, if_neg (by omega), Nat.add_assoc])
        have HX := Lib.hid hx
        have HXQ := Lib.hid hxq
        have HS := Lib.hid hs
        have hnj : 0 < n - j := by omega
        have hdr : n - j = (l.drop j).length := by rw [List.length_drop, ← HL.out]
        have HD := Lib.hid hdr
        have hb0r : b0 < wr.heap.size := Nat.lt_of_lt_of_le hb0 hC.size
        have hrr : wr.rangeAt b0 (off + j) (bcells (l.drop j)) := by
          have h1 := range_chg hrng (hC.block b0 hb0 hFb0)
          intro i v hv
          have e : (bcells (l.drop j))[i]? = (bcells l)[j + i]? := by simp [bcells]
          rw [e] at hv
          have := h1 (j + i) v hv
          rwa [← Nat.add_assoc] at this
        have hFb : ¬ F' b0 := fun h => by
          rcases hF2 b0 h with h1 | h1
          · exact hFb0 h1
          · omega
        have hend : ∀ g W W3 D2 pg2 N2 F2, pg2 q = some g → PM W p ram (writeM m ad (l.take j)) F2 N2 bm D2 pg2 → Chg F w W → W.grownBy W3 (some g) → (∀ b, F b → F2 b) → (∀ b, F2 b → F b ∨ w.heap.size ≤ b) →
            Blk W3 g 5 (bcells ((pageOf (writeM m ad (l.take j)) q).take o ++ (l.drop j).take s ++ (pageOf (writeM m ad (l.take j)) q).drop (o + ((l.drop j).take s).length))).toArray →
            PM W3 p ram (writeM m ad (l.take (j + s))) F2 N2 bm D2 pg2 ∧ Chg F w W3 := by
          intro g W W3 D2 pg2 N2 F2 h1 h2 h3 h4 h5 h6 h7
          have e1 : ((l.drop j).take s).length = s := by rw [List.length_take, ← HD.out]; omega
          have h8 := h2.put h1 (by rw [e1]; omega) h4 h7
          rw [← HXQ.out, HX.out] at h8
          have e2 : ad + j = ad + (l.take j).length := by rw [List.length_take, ← HL.out]; omega
          rw [e2, writeM_append, take_step] at h8
          have hFg := (h2.rows q g h1).2.1
          refine ⟨h8, h4.os.trans h3.os, h4.tape.trans h3.tape, h4.output.trans h3.output, Nat.le_trans h3.size h4.size, fun k hk hnF => (h4.block k (Nat.lt_of_lt_of_le hk h3.size) (fun e => ?_)).trans (h3.block k hk hnF)⟩
          cases e
          rcases h6 _ hFg with h9 | h9
          · exact hnF h9
          · omega
        have hmk : ∀ w1 w2, Below wr.heap.size wr w1 → w1.grownBy w2 (some bm) → Chg F w w2 ∧ (∀ b, (F' b ∨ b = wr.heap.size) → F b ∨ w.heap.size ≤ b) ∧ w2.heap[b0]? = wr.heap[b0]? ∧ wr.heap.size ≤ w2.heap.size := fun w1 w2 h1 h2 => by
          have hFm : F bm ∨ w.heap.size ≤ bm := hF2 _ hP3.fm
          refine ⟨⟨h2.os.trans (h1.os.trans hC.os), h2.tape.trans (h1.tape.trans hC.tape), h2.output.trans (h1.output.trans hC.output), Nat.le_trans hC.size (Nat.le_trans h1.size h2.size), fun k hk hnF => ?_⟩, ?_, ?_, Nat.le_trans h1.size h2.size⟩
          · refine ((h2.block k (Nat.lt_of_lt_of_le hk (Nat.le_trans hC.size h1.size)) (fun e => ?_)).trans (h1.block k (Nat.lt_of_lt_of_le hk hC.size))).trans (hC.block k hk hnF)
            cases e
            rcases hFm with h3 | h3
            · exact hnF h3
            · omega
          · rintro b (h3 | rfl)
            · exact hF2 b h3
            · exact .inr hC.size
          · refine (h2.block b0 (Nat.lt_of_lt_of_le hb0r h1.size) (fun e => hFb ?_)).trans (h1.block b0 hb0r)
            cases e; exact hP3.fm
        have hN'l : Hid (N' < maxLen) := Lib.hid (by have := HN.out; omega)
        clear hrng hA' hA2 hx hq ho hs hxq hdr had2
        cases hpg : pg' q with
        | some g =>
          rw [hpg] at hlk
          have hrow := (hP3.rows q g hpg).1
          have hpe := pgEq g
          have hE2 := fun w3 => hend g wr w3 D' pg' N' F' hpg hP3 hC
          unfold pgV at hlk hpe
          clear hend hpg
          go_wp2_with ((with_reducible refine at_copy ?_); refine wpList_copyG wr Tryz.underlying22 (by kernel_rfl) rfl _ _ rfl g o (4096 - o) (4096 - o) _ (l.drop j) hrow rfl b0 (off + j) (n - j) (c - j) rfl HD.out hrr hb0r s HS.out (by rw [pageOf_length]; omega) ?_; intro w3 hb3 hg3 hs3; obtain ⟨hP4, hC4⟩ := hE2 w3 hg3 hF1 hF2 hb3)
          go_roundw
          case rel => exact ⟨j + s, by omega, congrArg (Value.int .u64) (by have := HX.out; omega), ⟨some A2, by rw [Nat.sub_sub, Nat.sub_sub], fun hjs b off' h => by cases h; rw [hA3.out hjs]⟩, F', D', pg', N', by omega, hP4, hC4, hF1, hF2⟩
          case measure => show n - j - s < n - j; omega
        | none =>
          rw [hpg] at hlk
          have HPG := Lib.hid hpg
          have hnn := nilEq
          clear hpg
          go_wp2_with (first
            | (at_make; refine wpList_makeN wr el8m rfl _ _ rfl .i64 .i64 _ _ 4096 4096 rfl rfl rfl rfl (by omega) (by omega) (by omega) ?_; intro w1 hb1 hs1 hB1; rw [made_zero] at hb1; have hP5 := hP3.below hB1 (Nat.le_refl _); obtain ⟨w2, D2, hrun, hgr, hP6⟩ := hP5.make q wr.heap.size hq52 hN'l.out HPG.out hb1 (fun h => Nat.lt_irrefl _ (hP3.flt _ h)); unfold pgV at hrun; have c3 : w1.cell? ⟨p, 2, none⟩ = some (.map (some bm)) := (hP5.blk.cell 2).trans rfl; have hrow := (hP6.rows q wr.heap.size (by simp)).1; have hfin := hmk w1 w2 hB1 hgr)
            | ((with_reducible refine at_copy ?_); refine wpList_copyG w2 Tryz.underlying22 (by kernel_rfl) rfl _ _ rfl wr.heap.size o (4096 - o) (4096 - o) _ (l.drop j) hrow rfl b0 (off + j) (n - j) (c - j) rfl HD.out (range_chg hrr hfin.2.2.1) (Nat.lt_of_lt_of_le hb0r hfin.2.2.2) s HS.out (by rw [pageOf_length]; omega) ?_; intro w3 hb3 hg3 hs3; obtain ⟨hP4, hC4⟩ := hend wr.heap.size w2 w3 D2 _ (N' + 1) _ (by simp) hP6 hfin.1 hg3 (fun b h => .inl (hF1 b h)) hfin.2.1 hb3))
          go_roundw
          case rel => exact ⟨j + s, by omega, congrArg (Value.int .u64) (by have := HX.out; omega), ⟨some A2, by rw [Nat.sub_sub, Nat.sub_sub], fun hjs b off' h => by cases h; rw [hA3.out hjs]⟩, _, D2, _, N' + 1, by omega, hP4, hC4, fun b h => .inl (hF1 b h), hfin.2.1⟩
          case measure => show n - j - s < n - j; omega
      · obtain rfl : j = n := by omega
        go_wp2
        go_ret
        refine ⟨ret_int HE.out, F', ?_, hC, hF1, hF2⟩
        rw [List.take_of_length_le (by rw [HL.out]; exact Nat.le_refl _)] at hP3
        rw [hV.out]
        exact ⟨bm, D', pg', hP3.more hN'⟩
  · have hV : Hid (writeV ram m ad l = m) := Lib.hid (by rw [writeV, ← HL.out, ← hE, if_neg h0])
    have hne : (E != 0) = true := by simpa using h0
    have HE := Lib.hid hE
    clear hE h0 hP hcv
    go_wp2
    go_ret
    refine ⟨ret_int HE.out, F, ?_, C1, fun _ h => h, fun _ h => .inl h⟩
    rw [hV.out]
    exact ⟨bm, D, pg, hP1.more (by omega)⟩
end Go.Proofs.YtipdmhppadapkaaGreatDoor
/-
  Walk: mach.NewMem.
-/
namespace Go.Proofs.YtipdmhppadapkaaGreatDoor
open Go.RowKit

/-- a chunk: where, and the slice that holds its bytes -/
structure Ck where
  at_ : Nat
  A : Option Addr
  n : Nat
  c : Nat
  l : List UInt8
def Ck.cells (k : Ck) : List Value := [.int .u64 (k.at_ : Int), .slice k.A k.n k.c]
def ccells (l : List Ck) : List Value := l.flatMap Ck.cells
structure Ck.ok (w : World) (B : Nat) (k : Ck) : Prop where
  at_ : k.at_ < 18446744073709551616
  cap : k.n ≤ k.c ∧ k.c ≤ 9223372036854775807
  rd : Rd w B 1 k.A k.n (bcells k.l)
theorem Ck.ok.len {w : World} {B : Nat} {k : Ck} (h : k.ok w B) : k.n = k.l.length := by have := h.rd.len; rw [bcells_length] at this; omega
theorem ccells_length (l : List Ck) : (ccells l).length = l.length * 2 := by
  induction l with
  | nil => rfl
  | cons s l ih => simp only [ccells, List.flatMap_cons, List.length_append] at *; rw [ih]; simp [Ck.cells]; omega
theorem ccells_get : ∀ (l : List Ck) (k : Nat) (s : Ck), l[k]? = some s → ((ccells l).drop (k * 2)).take 2 = s.cells
  | [], k, s, h => by simp at h
  | x :: l, 0, s, h => by
    simp at h; subst h
    simp [ccells, Ck.cells]
  | x :: l, k + 1, s, h => by
    have := ccells_get l k s (by simpa using h)
    simp only [ccells, List.flatMap_cons]
    rw [show (k + 1) * 2 = 2 + k * 2 by omega, ← List.drop_drop, List.drop_left' (by simp [Ck.cells])]
    exact this
theorem rd_chunk {w : World} {B n : Nat} {b off : Nat} {l : List Ck} (h : Rd w B 2 (some ⟨b, off, none⟩) n (ccells l)) (k : Nat) (s : Ck) (hk : l[k]? = some s) : w.rangeAt b (off + k * 2) s.cells := by
  obtain ⟨hlt, _⟩ := List.getElem?_eq_some_iff.1 hk
  have hn : n = l.length := by have := h.len; rw [ccells_length] at this; omega
  obtain ⟨b', off', e, _, hr⟩ := h.range (by omega)
  cases e
  intro j v hv
  have hg := ccells_get l k s hk
  have hv2 : (ccells l)[k * 2 + j]? = some v := by
    have h1 : (((ccells l).drop (k * 2)).take 2)[j]? = some v := by rw [hg]; exact hv
    rw [List.getElem?_take] at h1
    split at h1
    · rwa [List.getElem?_drop] at h1
    · cases h1
  have := hr (k * 2 + j) v hv2
  rwa [← Nat.add_assoc] at this

/-- chunks written one behind the other -/
def fillM (ram : Sp) : List Ck → Mm → Int × Mm
  | [], m => (0, m)
  | k :: r, m => if askErr ram k.at_ k.l.length = 0 then fillM ram r (writeM m k.at_ k.l) else (askErr ram k.at_ k.l.length, m)
theorem fillM_snoc (ram : Sp) (k : Ck) : ∀ (J : List Ck) (m : Mm), (fillM ram J m).1 = 0 → fillM ram (J ++ [k]) m = if askErr ram k.at_ k.l.length = 0 then (0, writeM (fillM ram J m).2 k.at_ k.l) else (askErr ram k.at_ k.l.length, (fillM ram J m).2)
  | [], m, _ => by simp [fillM]
  | x :: r, m, h => by
    by_cases hx : askErr ram x.at_ x.l.length = 0
    · simp only [List.cons_append, fillM, if_pos hx] at h ⊢
      exact fillM_snoc ram k r _ h
    · simp only [fillM, if_neg hx] at h
      exact absurd h hx
theorem fillM_bad (ram : Sp) : ∀ (J J2 : List Ck) (m : Mm), (fillM ram J m).1 ≠ 0 → (fillM ram (J ++ J2) m).1 = (fillM ram J m).1
  | [], J2, m, h => by simp [fillM] at h
  | x :: r, J2, m, h => by
    by_cases hx : askErr ram x.at_ x.l.length = 0
    · simp only [List.cons_append, fillM, if_pos hx] at h ⊢
      exact fillM_bad ram r J2 _ h
    · simp only [List.cons_append, fillM, if_neg hx]
def zeroM : Mm := fun _ => 0
def ramOk (ram : Sp) : Bool := ram.pages && decide (ram.last < 1099511627776)
theorem ramOk_40 {ram : Sp} (h : ramOk ram = true) : ram.base + ram.size ≤ 1099511627776 := by
  simp only [ramOk, Bool.and_eq_true, decide_eq_true_eq, Sp.pages] at h
  have h1 := Sp.good_iff.1 h.1.1
  have h2 := h.2
  rw [Sp.last, if_pos h.1.1] at h2
  omega
def newErr (ram : Sp) (J : List Ck) : Int := if ramOk ram then (fillM ram J zeroM).1 else 1
def newM (ram : Sp) (J : List Ck) : Mm := (fillM ram J zeroM).2
theorem infCk : (Tryz.prog.info? 64).map (·.size) = some 2 := by kernel_rfl
theorem zeroCk (w : World) : (zeroValue 64).run Tryz.prog w = .ok (.agg #[.int .u64 0, .slice none 0 0]) w := by kernel_rfl
theorem run_mem (w : World) (ram : Sp) (b : Nat) : (Instr.build 123 #[(0, .agg ram.cells), (1, .map (some b))]).run Tryz.prog w = .ok (.agg #[.int .u64 (ram.base : Int), .int .u64 (ram.size : Int), .map (some b)]) w := by
  have hl : (flat [.agg ram.cells, .map (some b)]) = [.int .u64 (ram.base : Int), .int .u64 (ram.size : Int), .map (some b)] := by simp [flat, Value.cells, Sp.cells]
  have := run_build_rows (P := Tryz.prog) w (t := 123) (z := #[.int .u64 0, .int .u64 0, .map none]) #[(0, .agg ram.cells), (1, .map (some b))] [.agg ram.cells, .map (some b)] [(0, 2), (2, 1)]
    Tryz.underlying123 (by kernel_rfl) (by kernel_rfl) rfl (by simp [Rows1, Value.cells, Sp.cells]) (by rw [hl]; exact Nat.le_refl _)
  rw [hl] at this
  exact this
def NewRet (w : World) (ram : Sp) (J : List Ck) (N : Nat) (e : Ending) (w' : World) : Prop :=
  Below w.heap.size w w' ∧ ((newErr ram J ≠ 0 ∧ e = .returned (.tuple #[.pointer none, .int .i64 (newErr ram J)])) ∨
    (newErr ram J = 0 ∧ ∃ p F, e = .returned (.tuple #[.pointer (some ⟨p, 0, none⟩), .int .i64 0]) ∧ PMem w' p ram (newM ram J) F N ∧ ∀ b, F b → w.heap.size ≤ b))
/-- a new Mem: nothing was written -/
theorem pm_new (w W : World) (ram : Sp) (bm p : Nat) (hb : Blk W p 123 #[.int .u64 (ram.base : Int), .int .u64 (ram.size : Int), .map (some bm)]) (hm : W.ownsMap Tryz.prog 24 pgE bm 0 (.map [])) (hp : w.heap.size ≤ p) (hbm : w.heap.size ≤ bm) :
    ∃ F, PM W p ram zeroM F 0 bm (.map []) (fun _ => none) ∧ ∀ b, F b → w.heap.size ≤ b :=
  ⟨fun b => b = p ∨ b = bm, ⟨hb, hm, fun _ _ _ => rfl, fun _ _ h => (by cases h), fun _ _ _ _ => rfl, fun _ _ _ h => (by cases h), .inl rfl, .inr rfl, by
    rintro b (rfl | rfl)
    · exact hb.lt
    · exact hm.lt⟩, by
    rintro b (rfl | rfl)
    · exact hp
    · exact hbm⟩

set_option maxRecDepth 100000 in
set_option maxHeartbeats 2000000 in
theorem mnew_any (ram : Sp) (okr : ram.ok) (A : Option Addr) (n c : Nat) (J : List Ck) (hJ : ∀ k ∈ J, k.l.length ≤ 5000) (hn10 : n ≤ 10) (w : World) (hR : Rd w w.heap.size 2 A n (ccells J)) (hok : ∀ k ∈ J, k.ok w w.heap.size) :
    Calls Tryz.prog 18 #[.agg ram.cells, .slice A n c] w (NewRet w ram J (n * 5000)) := by
  have hb := Blk.new w 61 ram.cells
  have B0 : Below w.heap.size w (w.alloc (.cells ram.cells 61)) := (Below.refl _ _).alloc (Nat.le_refl _) _
  have hJn : n = J.length := by have := hR.len; rw [ccells_length] at this; omega
  have HJN := Lib.hid hJn
  have HJ := Lib.hid hJ
  have HOK := Lib.hid hok
  clear hJn hJ hok
  go_enter Tryz.func18, Tryz.ntmps18
  go_wp2_with (first
    | ((with_reducible refine at_load 61 ?_); refine wpList_loadAllW _ rfl 61 _ rfl w.heap.size 61 ram.cells hb _ rfl Tryz.underlying61 rfl infSpan ?_)
    | ((with_reducible refine at_buildSlice 178 ?_); refine wpList_runV rfl (Flow.reg_buildSlice #[(0, .agg ram.cells)] rfl (by simp [Act.eval, Act.put]) (run_spans1 _ ram)) ?_))
  have hs0 : (w.alloc (.cells ram.cells 61)).heap.size = w.heap.size + 1 := by simp
  generalize w.alloc (.cells ram.cells 61) = W0 at *
  have hbs := Blk.new W0 61 (scells [ram]).toArray
  have B1 := B0.alloc B0.size (.cells (scells [ram]).toArray 61)
  have hb1 := hb.alloc (.cells (scells [ram]).toArray 61)
  have hpg := mpages_any W0.heap.size 0 1 1 [ram] (by intro x hx; obtain rfl := List.mem_singleton.1 hx; exact okr) _ (hbs.rd rfl) (by omega)
  rw [hs0] at hpg
  clear hbs hb B0 hs0
  generalize W0.alloc (.cells (scells [ram]).toArray 61) = W1 at *
  refine hpg.mono ?_
  rintro e W2 ⟨rfl, hB2⟩
  have hb2 := hb1.below hB2 hb1.lt
  have B2 := B1.trans (hB2.mono B1.size)
  have e0 : [ram].all Sp.pages = ram.pages := by simp
  rw [e0]
  clear hpg hb1 B1 hB2 e0
  cases hp : ram.pages with
  | false =>
    have he : Hid (newErr ram J = 1) := Lib.hid (by rw [newErr, ramOk, hp]; rfl)
    clear hp
    go_wp2
    go_ret2
    exact ⟨B2, .inl ⟨by rw [he.out]; decide, by rw [he.out]; rfl⟩⟩
  | true =>
    go_wp2_with ((with_reducible refine at_load 61 ?_); refine wpList_loadAllW _ rfl 61 _ rfl w.heap.size 61 ram.cells hb2 _ rfl Tryz.underlying61 rfl infSpan ?_)
    refine (last_any ram okr W2).mono ?_
    rintro e W3 ⟨rfl, hB3⟩
    obtain ⟨L, hL⟩ : ∃ L, L = ram.last := ⟨_, rfl⟩
    rw [← hL]
    have hb3 := hb2.below hB3 hb2.lt
    have B3 := B2.trans (hB3.mono B2.size)
    clear hb2 B2 hB3
    by_cases hge : 1099511627776 ≤ L
    · have hd : decide ((1099511627776 : Int) ≤ (L : Int)) = true := decide_eq_true (by omega)
      have he : Hid (newErr ram J = 1) := Lib.hid (by rw [newErr, ramOk, hp, decide_eq_false (by omega)]; rfl)
      clear hge hp hL
      go_wp2
      go_ret2
      exact ⟨B3, .inl ⟨by rw [he.out]; decide, by rw [he.out]; rfl⟩⟩
    · have hd : decide ((1099511627776 : Int) ≤ (L : Int)) = false := decide_eq_false (by omega)
      have hrk : ramOk ram = true := by rw [ramOk, hp, decide_eq_true (by omega)]; rfl
      have hr40 := ramOk_40 hrk
      have he : Hid (newErr ram J = (fillM ram J zeroM).1) := Lib.hid (by rw [newErr, if_pos hrk])
      have hmm := @run_makeMap Tryz.prog
      clear hge hp hL hrk
      go_wp2_with (first
        | ((with_reducible refine at_load 61 ?_); refine wpList_loadAllW _ rfl 61 _ rfl w.heap.size 61 ram.cells hb3 _ rfl Tryz.underlying61 rfl infSpan ?_)
        | ((with_reducible refine at_build 123 ?_); refine wpList_buildV _ rfl #[(0, .agg ram.cells), (1, .map (some W3.heap.size))] rfl (by simp [Act.eval]) (run_mem _ ram _) ?_))
      have hbm := World.ownsMap_made (H := Unit) W3 Tryz.prog 24 pgE
      have hbp := Blk.new (W3.alloc (.map #[] 0)) 123 #[.int .u64 (ram.base : Int), .int .u64 (ram.size : Int), .map (some W3.heap.size)]
      rw [World.size_alloc] at hbp
      obtain ⟨F0, hP0, hF0⟩ := pm_new w _ ram W3.heap.size (W3.heap.size + 1) hbp (hbm.alloc _) (by have := B3.size; omega) B3.size
      have B4 := (B3.alloc B3.size (.map #[] 0)).alloc (by simp; have := B3.size; omega) (.cells #[.int .u64 (ram.base : Int), .int .u64 (ram.size : Int), .map (some W3.heap.size)] 123)
      generalize (W3.alloc (.map #[] 0)).alloc (.cells #[.int .u64 (ram.base : Int), .int .u64 (ram.size : Int), .map (some W3.heap.size)] 123) = W4 at *
      have hPM0 : PMem W4 (W3.heap.size + 1) ram zeroM F0 0 := ⟨_, _, _, hP0⟩
      generalize W3.heap.size + 1 = p at *
      clear hbm hbp hP0 hb3 B3 hmm
      have hz := zeroCk
      go_loopw [25] (fun v wr => ∃ k : Nat, k ≤ n ∧ v = .int .i64 k ∧ Below w.heap.size w wr ∧ Hid ((fillM ram (J.take k) zeroM).1 = 0) ∧ ∃ F, PMem wr p ram (fillM ram (J.take k) zeroM).2 F (k * 5000) ∧ ∀ b, F b → w.heap.size ≤ b) (fun v _ => n - (intOf v).toNat)
      case atStart => exact ⟨0, Nat.zero_le _, rfl, B4, Lib.hid rfl, F0, hPM0, hF0⟩
      case round =>
        obtain ⟨k, hk, rfl, hB, hf0, F, hP, hF⟩ := hrel
        by_cases hlt : k < n
        · obtain ⟨x, hx⟩ : ∃ x, J[k]? = some x := ⟨_, List.getElem?_eq_getElem (by rw [← HJN.out]; exact hlt)⟩
          have hxo := HOK.out x (List.mem_of_getElem? hx)
          have hxl := HJ.out x (List.mem_of_getElem? hx)
          have hxa := hxo.at_
          have hxn := hxo.len
          have HXN := Lib.hid hxn
          have hRx := hxo.rd
          have hxc := hxo.cap
          have hxn5 : x.n ≤ 5000 := by omega
          have hsn := fillM_snoc ram x (J.take k) zeroM hf0.out
          have htk : J.take (k + 1) = J.take k ++ [x] := by rw [List.take_add_one, hx]; rfl
          rw [← htk] at hsn
          have HSN := Lib.hid hsn
          have HBAD : Hid ((fillM ram (J.take (k + 1)) zeroM).1 ≠ 0 → newErr ram J = (fillM ram (J.take (k + 1)) zeroM).1) := Lib.hid (fun h => by
            have h1 := fillM_bad ram (J.take (k + 1)) (J.drop (k + 1)) zeroM h
            rw [List.take_append_drop] at h1
            rw [he.out, h1])
          obtain ⟨ba, bo, rfl, _, _⟩ := hR.range (by omega)
          have hrng := rd_chunk (hR.below hB) k x hx
          have hC := fun W F' h1 h2 h3 h4 => mwrite_any p ram okr hr40 (fillM ram (J.take k) zeroM).2 F' (k * 5000) x.at_ x.A x.n x.c x.l hxa HXN.out hxc.1 hxc.2 h1 W h2 h3 h4
          obtain ⟨M, hM⟩ : ∃ M, M = (fillM ram (J.take k) zeroM).2 := ⟨_, rfl⟩
          rw [← hM] at hP hC
          have HM := Lib.hid hM
          have hcz := Blk.new wr 64 #[.int .u64 0, .slice none 0 0]
          clear hxn hsn htk hM hx hxo
          go_wp2_with (first
            | ((with_reducible refine at_load 64 ?_); refine wpList_load_mid rfl 64 _ rfl ba (bo + k * 2) rfl x.cells _ hrng Tryz.underlying64 rfl infCk ?_)
            | ((with_reducible refine at_store 64 ?_); refine wpList_storeAll _ rfl 64 _ _ rfl wr.heap.size 64 _ x.cells.toArray hcz rfl rfl rfl infCk (by intro v hv; simp only [Ck.cells, List.mem_cons, List.not_mem_nil, or_false] at hv; rcases hv with rfl | rfl <;> rfl) ?_; intro w3 hb3 hg3 hs3; have cc0 : w3.cell? ⟨wr.heap.size, 0, none⟩ = some (.int .u64 (x.at_ : Int)) := (hb3.cell 0).trans rfl; have cc1 : w3.cell? ⟨wr.heap.size, 1, none⟩ = some (.slice x.A x.n x.c) := (hb3.cell 1).trans rfl))
          have hB3 := grown_below (hB.alloc hB.size (.cells #[.int .u64 0, .slice none 0 0] 64)) hg3 (by simp; have := hB.size; omega) hB.size
          have hP3 : PMem w3 p ram M F (k * 5000) := hP.keep (by rw [hs3]; simp) (fun b hb hlb => (hg3.block b (by simp; omega) (fun e => by cases e; exact Nat.lt_irrefl _ hlb)).trans (Below.heap_alloc wr _ b hlb))
          have hcall := hC w3 F (by simp only [maxLen]; omega) ((hRx.below hB3).more hB3.size) (fun h0 y hy hFy => by
            obtain ⟨b, off, e, h1, _⟩ := hRx.range (by omega)
            rw [hy] at e
            cases e
            exact absurd (hF _ hFy) (Nat.not_le.2 h1)) hP3
          clear hC hP hcz hg3 hs3 cc0 cc1 hb3 hRx hrng hB
          refine hcall.mono ?_
          rintro e w5 ⟨rfl, F5, hP5, hC5, h51, h52⟩
          have B5 := hB3.trans (hC5.below hF hB3.size)
          have hF5 : ∀ b, F5 b → w.heap.size ≤ b := fun b hb => by
            rcases h52 b hb with h6 | h6
            · exact hF b h6
            · exact Nat.le_trans hB3.size h6
          obtain ⟨E, hE⟩ : ∃ E, E = askErr ram x.at_ x.n := ⟨_, rfl⟩
          rw [← hE]
          clear hcall hB3 hP3 hC5 h51 h52
          by_cases h0 : E = 0
          · have hq : askErr ram x.at_ x.l.length = 0 := by rw [← HXN.out, ← hE]; exact h0
            have hV : Hid ((fillM ram (J.take (k + 1)) zeroM).1 = 0 ∧ (fillM ram (J.take (k + 1)) zeroM).2 = writeV ram M x.at_ x.l) := Lib.hid (by rw [HSN.out, if_pos hq, writeV, if_pos hq, HM.out]; exact ⟨rfl, rfl⟩)
            clear hE hq HBAD HSN
            subst h0
            go_wp2
            go_roundw
            case rel => exact ⟨k + 1, by omega, by go_num, B5, Lib.hid hV.out.1, F5, by rw [hV.out.2]; exact hP5.more (by omega), hF5⟩
            case measure => simp [intOf]; omega
          · have hq : ¬ askErr ram x.at_ x.l.length = 0 := by rw [← HXN.out, ← hE]; exact h0
            have hV : Hid (newErr ram J = E) := Lib.hid (by
              have h1 : (fillM ram (J.take (k + 1)) zeroM).1 = E := by rw [HSN.out, if_neg hq, ← HXN.out, ← hE]
              rw [HBAD.out (by rw [h1]; exact h0), h1])
            have H0 := Lib.hid h0
            have hne : (E != 0) = true := by simpa using h0
            clear hE hq HBAD HSN h0
            go_wp2
            go_ret2
            exact ⟨B5, .inl ⟨by rw [hV.out]; exact H0.out, by rw [hV.out]; rfl⟩⟩
        · obtain rfl : k = n := by omega
          have hJall : J.take k = J := List.take_of_length_le (by rw [HJN.out]; exact Nat.le_refl _)
          rw [hJall] at hP hf0
          go_wp2
          go_ret2
          exact ⟨hB, .inr ⟨by rw [he.out]; exact hf0.out, p, F, rfl, hP, hF⟩⟩
end Go.Proofs.YtipdmhppadapkaaGreatDoor
/-
  Walks: (*Mem).Put, (*Mem).Word.
-/
namespace Go.Proofs.YtipdmhppadapkaaGreatDoor
open Go.RowKit

theorem MAfter.from {w w1 w2 : World} {p : Nat} {ram : Sp} {m : Mm} {F : Nat → Prop} {N : Nat} (hB : Below w.heap.size w w1) (h : MAfter w1 w2 p ram m F N) : MAfter w w2 p ram m F N := by
  obtain ⟨F', h1, h2, h3, h4⟩ := h
  refine ⟨F', h1, ((Chg.of_ext hB : Chg F w w1)).trans h2, h3, fun b hb => ?_⟩
  rcases h4 b hb with h5 | h5
  · exact .inl h5
  · exact .inr (Nat.le_trans hB.size h5)
theorem MAfter.same {w w1 : World} {p : Nat} {ram : Sp} {m : Mm} {F : Nat → Prop} {N : Nat} (hB : Below w.heap.size w w1) (h : PMem w p ram m F N) : MAfter w w1 p ram m F N :=
  ⟨F, h.below hB (Nat.le_refl _), Chg.of_ext hB, fun _ h => h, fun _ h => .inl h⟩
theorem MAfter.more {w w1 : World} {p : Nat} {ram : Sp} {m : Mm} {F : Nat → Prop} {N N' : Nat} (h : MAfter w w1 p ram m F N) (hN : N ≤ N') : MAfter w w1 p ram m F N' := by
  obtain ⟨F', h1, h2⟩ := h; exact ⟨F', h1.more hN, h2⟩
theorem run_u64s (w : World) (x : Int) : (Instr.buildSlice 74 1 #[(0, .int .u64 x)]).run Tryz.prog w = .ok (.slice (some ⟨w.heap.size, 0, none⟩) 1 1) (w.alloc (.cells #[.int .u64 x] 24)) := by
  go_simp

end Go.Proofs.YtipdmhppadapkaaGreatDoor
/-
  Walk: chapter 9's example.
-/
namespace Go.Proofs.YtipdmhppadapkaaGreatDoor
open Go.RowKit

theorem ptrNe (p : Nat) (w : World) : (binOp .eql 65 (.pointer (some ⟨p, 0, none⟩)) (.pointer none)).run Tryz.prog w = .ok (.bool false) w := by kernel_rfl
end Go.Proofs.YtipdmhppadapkaaGreatDoor
/-
  Walk: the law MachWords.
-/
namespace Go.Proofs.YtipdmhppadapkaaGreatDoor
open Go.RowKit

end Go.Proofs.YtipdmhppadapkaaGreatDoor
/-
  Walks: memory and flash that nobody made; slices.Clone; the flash.
-/
namespace Go.Proofs.YtipdmhppadapkaaGreatDoor
open Go.RowKit

theorem flNe (p : Nat) (w : World) : (binOp .eql 43 (.pointer (some ⟨p, 0, none⟩)) (.pointer none)).run Tryz.prog w = .ok (.bool false) w := by kernel_rfl
end Go.Proofs.YtipdmhppadapkaaGreatDoor
/-
  Walks: slices.Clone; the flash; the law MachFlashes.
-/
namespace Go.Proofs.YtipdmhppadapkaaGreatDoor
open Go.RowKit

theorem run_empty (w : World) : (Instr.buildSlice 22 0 #[]).run Tryz.prog w = .ok (.slice (some ⟨w.heap.size, 0, none⟩) 0 0) (w.alloc (.cells #[] 5)) := by
  kernel_rfl
theorem sliceNe (a : Addr) (n c : Nat) (w : World) : (binOp .eql 22 (.slice (some a) n c) (.slice none 0 0)).run Tryz.prog w = .ok (.bool false) w := by kernel_rfl
theorem sliceNil (n c : Nat) (w : World) : (binOp .eql 22 (.slice none n c) (.slice none 0 0)).run Tryz.prog w = .ok (.bool true) w := by kernel_rfl

set_option maxRecDepth 100000 in
set_option maxHeartbeats 1000000 in
theorem clone_any (A : Option Addr) (n c : Nat) (l : List UInt8) (hn : n ≤ 1000000) (w : World) (hR : Rd w w.heap.size 1 A n (bcells l)) :
    Calls Tryz.prog 40 #[.slice A n c] w fun e w' => ∃ A' c', e = .returned (.slice A' n c') ∧ n ≤ c' ∧ Rd w' w'.heap.size 1 A' n (bcells l) ∧ Below w.heap.size w w' := by
  have hl : n = l.length := by have := hR.len; rw [bcells_length] at this; omega
  cases A with
  | none =>
    have h0 : n = 0 := by
      rcases Nat.eq_zero_or_pos n with h | h
      · exact h
      · obtain ⟨b, off, e, _⟩ := hR.range (by omega); cases e
    have hl0 : l = [] := List.eq_nil_of_length_eq_zero (by omega)
    subst hl0
    clear hl
    subst h0
    have hq := sliceNil 0 c
    go_enter Tryz.func40, Tryz.ntmps40
    go_wp2
    go_ret
    exact ⟨none, 0, rfl, Nat.le_refl _, Rd.nil _ _ _ _, Below.refl _ _⟩
  | some a =>
    have hq := sliceNe a n c
    have HL := Lib.hid hl
    clear hl
    go_enter Tryz.func40, Tryz.ntmps40
    have hb := Blk.new w 5 #[]
    have B1 : Below w.heap.size w (w.alloc (.cells #[] 5)) := (Below.refl _ _).alloc (Nat.le_refl _) _
    have hO := hb.own (base := w.heap.size) (size := 1) (n := 0) (m := 0) (Nat.le_refl _) rfl (Nat.le_refl _) (by omega)
    have hR1 := (hR.below B1).more B1.size
    go_wp2_with (first
      | ((with_reducible refine at_buildSlice 22 ?_); refine wpList_runV rfl (Flow.reg_buildSlice #[] rfl (by simp) (run_empty w)) ?_)
      | (at_builtin; refine wpList_app _ el8m rfl _ _ rfl w.heap.size (some ⟨w.heap.size, 0, none⟩) 0 0 [] rfl (by simpa using hO) _ (some a) n c _ rfl hR1 (bcells_one l) (by omega) (by omega) (by simp) ?_; intro A1 c1 w1 hO1 hg hB _))
    go_ret
    rw [List.nil_append, Nat.zero_add] at hO1
    refine ⟨A1, c1, ?_, ?_, Rd.of_own hO1, B1.trans hB⟩
    · rfl
    · exact Flow.own_le hO1

/-- a flash: its bytes -/
def FL (w : World) (f : Nat) (l : List UInt8) : Prop := ∃ A c, Blk w f 91 #[.slice A l.length c] ∧ l.length ≤ c ∧ Rd w w.heap.size 1 A l.length (bcells l)
theorem FL.below {w w' : World} {f : Nat} {l : List UInt8} (h : FL w f l) (hB : Below w.heap.size w w') : FL w' f l := by
  obtain ⟨A, c, h1, h2, h3⟩ := h
  exact ⟨A, c, h1.below hB h1.lt, h2, (h3.below hB).more hB.size⟩
def getE (l : List UInt8) (off n : Nat) : Int := if n = 0 then 0 else if l.length < off + n then 151 else 0
def getV (l : List UInt8) (off n : Nat) : List UInt8 := if n = 0 then [] else if l.length < off + n then [] else (l.drop off).take n
theorem getV_ok {l : List UInt8} {off n : Nat} (h0 : ¬ n = 0) (h1 : ¬ l.length < off + n) : getV l off n = (l.drop off).take n ∧ getE l off n = 0 ∧ (getV l off n).length = n := by
  have e : getV l off n = (l.drop off).take n := by rw [getV, if_neg h0, if_neg h1]
  refine ⟨e, by rw [getE, if_neg h0, if_neg h1], ?_⟩
  rw [e, List.length_take, List.length_drop]; omega
theorem rd_partM {w : World} {B b off n c : Nat} {l : List UInt8} (hR : Rd w B 1 (some ⟨b, off, none⟩) n (bcells l)) (hc : n ≤ c) (f k : Nat) (hk : f + k ≤ n) :
    Rd w B 1 (some (if c = f then ⟨b, off, none⟩ else ⟨b, off + f, none⟩)) k (bcells ((l.drop f).take k)) := by
  have h1 := (hR.cut (k := f) hc).front (k := k) (by omega)
  have e1 : ((bcells l).drop (f * 1)).take (k * 1) = bcells ((l.drop f).take k) := by rw [Nat.mul_one, Nat.mul_one]; simp [bcells]
  rw [e1] at h1
  have e2 : (if c = f then (some ⟨b, off, none⟩ : Option Addr) else (some ⟨b, off, none⟩ : Option Addr).map (·.add (f * 1))) = some (if c = f then ⟨b, off, none⟩ else ⟨b, off + f, none⟩) := by
    split
    · rfl
    · simp [Addr.add]
  rw [e2] at h1
  exact h1
theorem run_fl (w : World) (A : Option Addr) (n c : Nat) : (Instr.build 91 #[(0, .slice A n c)]).run Tryz.prog w = .ok (.agg #[.slice A n c]) w := by
  have := run_build_rows (P := Tryz.prog) w (t := 91) (z := #[.slice none 0 0]) #[(0, .slice A n c)] [.slice A n c] [(0, 1)]
    Tryz.underlying91 (by kernel_rfl) (by kernel_rfl) rfl (by simp [Rows1, Value.cells]) (by simp [flat, Value.cells])
  simpa [flat, Value.cells] using this

set_option maxRecDepth 100000 in
theorem burn_any (A : Option Addr) (n c : Nat) (l : List UInt8) (hn : n ≤ 1000000) (w : World) (hR : Rd w w.heap.size 1 A n (bcells l)) :
    Calls Tryz.prog 11 #[.slice A n c] w fun e w' => ∃ f, e = .returned (.pointer (some ⟨f, 0, none⟩)) ∧ w.heap.size ≤ f ∧ FL w' f l ∧ Below w.heap.size w w' := by
  have hl : n = l.length := by have := hR.len; rw [bcells_length] at this; omega
  have HL := Lib.hid hl
  clear hl
  go_enter Tryz.func11, Tryz.ntmps11
  go_wp2_with fail
  refine (clone_any A n c l hn w hR).mono ?_
  rintro e W1 ⟨A1, c1, rfl, h1, hR1, B1⟩
  go_wp2_with ((with_reducible refine at_build 91 ?_); refine wpList_buildV _ rfl #[(0, .slice A1 n c1)] rfl (by simp [Act.eval]) (run_fl _ _ _ _) ?_)
  go_ret
  refine ⟨W1.heap.size, rfl, B1.size, ⟨A1, c1, ?_, ?_, ?_⟩, B1.alloc B1.size _⟩
  · rw [← HL.out]; exact Blk.new _ _ _
  · rw [← HL.out]; exact h1
  · rw [← HL.out]; exact (hR1.alloc (Nat.le_refl _) _).more (by simp)
set_option maxRecDepth 100000 in
set_option maxHeartbeats 1000000 in
theorem mget_any (f : Nat) (l : List UInt8) (hl5 : l.length ≤ 1000000) (off n : Nat) (ho : off < 4294967296) (hn : n < 4294967296) (w : World) (hF : FL w f l) :
    Calls Tryz.prog 73 #[.pointer (some ⟨f, 0, none⟩), .int .u32 (off : Int), .int .u32 (n : Int)] w (BErr w (getV l off n) (getE l off n)) := by
  obtain ⟨A, c, h1, h2, h3⟩ := hF
  have c0 : w.cell? ⟨f, 0, none⟩ = some (.slice A l.length c) := (h1.cell 0).trans rfl
  have hq := flNe f
  obtain ⟨LN, hLN⟩ : ∃ k, k = l.length := ⟨_, rfl⟩
  rw [← hLN] at c0 h2 h3 hl5
  have HLN := Lib.hid hLN
  have e1 : IntKind.u64.wrap (off : Int) = (off : Int) := IntWalk.u64_in _ (by omega)
  have e2 : IntKind.u64.wrap (n : Int) = (n : Int) := IntWalk.u64_in _ (by omega)
  have e3 : IntKind.u64.wrap (LN : Int) = (LN : Int) := IntWalk.u64_in _ (by omega)
  have e4 : IntKind.u64.wrap ((off : Int) + (n : Int)) = (off : Int) + (n : Int) := IntWalk.u64_in _ (by omega)
  clear h1 hLN
  by_cases h0 : n = 0
  · subst h0
    go_enter Tryz.func73, Tryz.ntmps73
    go_wp2
    go_ret2
    rw [getV, getE, if_pos rfl, if_pos rfl]
    exact ⟨none, 0, rfl, Nat.le_refl _, Rd.nil _ _ _ _, Below.refl _ _⟩
  · by_cases hlt : LN < off + n
    · have hv : Hid (getV l off n = [] ∧ getE l off n = 151) := Lib.hid (by rw [getV, getE, if_neg h0, if_neg h0, if_pos (by rw [← HLN.out]; exact hlt), if_pos (by rw [← HLN.out]; exact hlt)]; exact ⟨rfl, rfl⟩)
      have hpos : 0 < n := by omega
      have hlti : (LN : Int) < (off : Int) + (n : Int) := by omega
      clear h0 hlt
      go_enter Tryz.func73, Tryz.ntmps73
      go_wp2
      go_ret2
      rw [hv.out.1, hv.out.2]
      exact ⟨none, 0, rfl, Nat.le_refl _, Rd.nil _ _ _ _, Below.refl _ _⟩
    · obtain ⟨g1, g2, g3⟩ := getV_ok h0 (show ¬ l.length < off + n by rw [← HLN.out]; exact hlt)
      obtain ⟨b, o, rfl, _, _⟩ := h3.range (by omega)
      have hp := rd_partM h3 h2 off n (by omega)
      rw [← g1] at hp
      have hsl := fun W => run_slice_lhK (P := Tryz.prog) W 22 (by kernel_rfl) (by kernel_rfl) b o LN c off n .u32 .u64 (off : Int) ((off : Int) + (n : Int)) rfl (by omega) (by omega)
      generalize (if c = off then (⟨b, o, none⟩ : Addr) else ⟨b, o + off, none⟩) = A1 at hp hsl
      have hcl := clone_any (some A1) n (c - off) (getV l off n) (by omega) w hp
      have hpos : 0 < n := by omega
      have hle : (off : Int) + (n : Int) ≤ (LN : Int) := by omega
      have G2 := Lib.hid g2
      have G3 := Lib.hid g3
      clear h0 hlt g1 g2 g3 hp
      go_enter Tryz.func73, Tryz.ntmps73
      go_wp2_with fail
      refine Calls.mono hcl ?_
      rintro e W1 ⟨A2, c2, rfl, k1, k2, k3⟩
      clear hcl hsl
      go_wp2
      go_ret2
      rw [G2.out]
      exact ⟨A2, c2, by rw [G3.out]; rfl, by rw [G3.out]; exact k1, by rw [G3.out]; exact k2, k3⟩
end Go.Proofs.YtipdmhppadapkaaGreatDoor
