/-
  Parts: WordC MaA MaB MaC.
-/
import Derived.Test.YtpellkblaeeopaaGreatDoorC08
import Derived.Test.YtpellkblaeeopaaGreatDoorC03
import Derived.Test.YtpellkblaeeopaaGreatDoorC02
import Derived.Deep.MidRow
/-
  Walks: portreeveref01.Number, portreeveref01.Put, word.Cat.
-/
namespace Go.Proofs.YtpellkblaeeopaaGreatDoor
open Go.RowKit

section
variable (A : Option Addr) (n c : Nat) (p : Int) (low : Bool) (l : List UInt8) (w : World)

end

/-- a []byte value with what it reads as -/
structure Bs where
  A : Option Addr
  n : Nat
  c : Nat
  l : List UInt8
def Bs.val (b : Bs) : Value := .slice b.A b.n b.c
def Bs.ok (w : World) (B : Nat) (b : Bs) : Prop := Rd w B 1 b.A b.n (bcells b.l)
def Bs.all (ps : List Bs) : List UInt8 := ps.flatMap (·.l)
def Bs.tot (ps : List Bs) : Nat := (ps.map (·.n)).sum
theorem Bs.tot_take (ps : List Bs) (k : Nat) (b : Bs) (h : ps[k]? = some b) : Bs.tot (ps.take (k + 1)) = Bs.tot (ps.take k) + b.n := by
  obtain ⟨hlt, rfl⟩ := List.getElem?_eq_some_iff.1 h
  rw [List.take_succ_eq_append_getElem hlt]; simp only [Bs.tot, List.map_append, List.sum_append, List.map_cons, List.map_nil, List.sum_cons, List.sum_nil, Nat.add_zero]
theorem Bs.all_take (ps : List Bs) (k : Nat) (b : Bs) (h : ps[k]? = some b) : Bs.all (ps.take (k + 1)) = Bs.all (ps.take k) ++ b.l := by
  obtain ⟨hlt, rfl⟩ := List.getElem?_eq_some_iff.1 h
  rw [List.take_succ_eq_append_getElem hlt]; simp only [Bs.all, List.flatMap_append, List.flatMap_cons, List.flatMap_nil, List.append_nil]
end Go.Proofs.YtpellkblaeeopaaGreatDoor
/-
  Spans: plain, and the walks of Good, Last, Has, Within of both.
-/
namespace Go.Proofs.YtpellkblaeeopaaGreatDoor
open Go.RowKit

/-- a span: where it begins, how long it is -/
structure Sp where
  base : Nat
  size : Nat
structure Sp.ok (s : Sp) : Prop where
  base : s.base < 18446744073709551616
  size : s.size < 18446744073709551616
def Sp.cells (s : Sp) : Array Value := #[.int .u64 (s.base : Int), .int .u64 (s.size : Int)]
def Sp.good (s : Sp) : Bool := decide (0 < s.size ∧ s.base + s.size ≤ 18446744073709551616)
def Sp.last (s : Sp) : Nat := if s.good then s.base + s.size - 1 else 0
def Sp.has (s : Sp) (a : Nat) : Bool := decide (0 < s.size ∧ s.base + s.size ≤ 18446744073709551616 ∧ s.base ≤ a ∧ a < s.base + s.size)
def Sp.within (s t : Sp) : Bool := decide (s.good = true ∧ t.good = true ∧ t.base ≤ s.base ∧ s.base + s.size ≤ t.base + t.size)
def Sp.pages (s : Sp) : Bool := decide (s.good = true ∧ s.base % 4096 = 0 ∧ s.size % 4096 = 0)
theorem Sp.good_iff {s : Sp} : s.good = true ↔ 0 < s.size ∧ s.base + s.size ≤ 18446744073709551616 := by simp [Sp.good]
theorem Sp.last_lt (s : Sp) (_h : s.ok) : s.last < 18446744073709551616 := by
  unfold Sp.last
  split
  · rename_i h; have := Sp.good_iff.1 h; omega
  · omega
theorem infSpan : (Tryz.prog.info? 25).map (·.size) = some 2 := by kernel_rfl
theorem sp_one (s : Sp) : ∀ v ∈ s.cells.toList, v.oneCell' = true := by
  intro v hv
  simp only [Sp.cells, List.mem_cons, List.not_mem_nil, or_false] at hv
  rcases hv with rfl | rfl <;> rfl
theorem sp_cells {w : World} {g : Nat} {s : Sp} (h : Blk w g 25 s.cells) : w.cell? ⟨g, 0, none⟩ = some (.int .u64 (s.base : Int)) ∧ w.cell? ⟨g, 1, none⟩ = some (.int .u64 (s.size : Int)) :=
  ⟨(h.cell 0).trans rfl, (h.cell 1).trans rfl⟩

def BoolRet (w : World) (b : Bool) (e : Ending) (w' : World) : Prop := e = .returned (.bool b) ∧ Below w.heap.size w w'
def NatRet (w : World) (x : Nat) (e : Ending) (w' : World) : Prop := e = .returned (.int .u64 (x : Int)) ∧ Below w.heap.size w w'

theorem ret_bool {a b : Bool} (h : a = b) : Ending.returned (.bool a) = .returned (.bool b) := by rw [h]
theorem ret_u64 {a : Int} {b : Nat} (h : a = (b : Int)) : Ending.returned (.int .u64 a) = .returned (.int .u64 (b : Int)) := by rw [h]

set_option maxRecDepth 100000 in
theorem good_any (s : Sp) (ok : s.ok) (w : World) : Calls Tryz.prog 20 #[.agg s.cells] w (BoolRet w s.good) := by
  have hb := Blk.new w 25 s.cells
  obtain ⟨c0, c1⟩ := sp_cells hb
  have B : Below w.heap.size w (w.alloc (.cells s.cells 25)) := (Below.refl _ _).alloc (Nat.le_refl _) _
  have k1 := ok.base
  have k2 := ok.size
  clear hb
  go_enter Tryz.func20, Tryz.ntmps20
  go_wp2
  all_goals
    go_ret
    refine ⟨ret_bool ?_, B⟩
    simp only [Sp.good, eq_comm (a := false), decide_eq_decide, decide_eq_false_iff_not]
    omega

set_option maxRecDepth 100000 in
theorem last_any (s : Sp) (ok : s.ok) (w : World) : Calls Tryz.prog 17 #[.agg s.cells] w (NatRet w s.last) := by
  have hb := Blk.new w 25 s.cells
  have hb2 : Hid (s.cells.size = 2) := Lib.hid rfl
  have B : Below w.heap.size w (w.alloc (.cells s.cells 25)) := (Below.refl _ _).alloc (Nat.le_refl _) _
  have k1 := ok.base
  have k2 := ok.size
  go_enter Tryz.func17, Tryz.ntmps17
  go_wp2_with ((with_reducible refine at_load 25 ?_); refine wpList_loadAll _ rfl 25 _ rfl w.heap.size 25 s.cells hb _ rfl Tryz.underlying25 rfl infSpan ?_)
  generalize w.alloc (.cells s.cells 25) = W at *
  refine (good_any s ok W).mono ?_
  rintro e W2 ⟨rfl, hB⟩
  obtain ⟨c0, c1⟩ := sp_cells (hb.below hB hb.lt)
  have B2 := B.trans (hB.mono B.size)
  clear hb B hB
  cases hg : s.good with
  | false =>
    go_wp2
    go_ret
    exact ⟨ret_u64 (by simp [Sp.last, hg]), B2⟩
  | true =>
    have hg2 := Sp.good_iff.1 hg
    have hl : Hid (s.last = s.base + s.size - 1) := Lib.hid (by simp [Sp.last, hg])
    go_wp2
    go_ret
    refine ⟨ret_u64 ?_, B2⟩
    rw [hl.out]; omega

set_option maxRecDepth 100000 in
theorem has_any (s : Sp) (ok : s.ok) (a : Nat) (_ha : a < 18446744073709551616) (w : World) : Calls Tryz.prog 103 #[.agg s.cells, .int .u64 (a : Int)] w (BoolRet w (s.has a)) := by
  have hb := Blk.new w 25 s.cells
  have B : Below w.heap.size w (w.alloc (.cells s.cells 25)) := (Below.refl _ _).alloc (Nat.le_refl _) _
  have k1 := ok.base
  have k2 := ok.size
  go_enter Tryz.func103, Tryz.ntmps103
  go_wp2_with ((with_reducible refine at_load 25 ?_); refine wpList_loadAll _ rfl 25 _ rfl w.heap.size 25 s.cells hb _ rfl Tryz.underlying25 rfl infSpan ?_)
  generalize w.alloc (.cells s.cells 25) = W at *
  refine (good_any s ok W).mono ?_
  rintro e W2 ⟨rfl, hB⟩
  have hb2 := hb.below hB hb.lt
  obtain ⟨c0, c1⟩ := sp_cells hb2
  have B2 := B.trans (hB.mono B.size)
  clear hb B hB
  cases hg : s.good with
  | false =>
    have hg2 : ¬ (0 < s.size ∧ s.base + s.size ≤ 18446744073709551616) := fun h => by rw [Sp.good_iff.2 h] at hg; cases hg
    have hx : Hid (s.has a = false) := Lib.hid (by simp only [Sp.has, decide_eq_false_iff_not]; omega)
    clear hg2 hg
    go_wp2
    go_ret
    refine ⟨ret_bool ?_, B2⟩
    rw [hx.out]
  | true =>
    have hg2 := Sp.good_iff.1 hg
    have hl : Hid (s.last = s.base + s.size - 1) := Lib.hid (by simp [Sp.last, hg])
    obtain ⟨L, hL⟩ : ∃ L, L = s.last := ⟨_, rfl⟩
    have HL := Lib.hid hL
    have hla := last_any s ok W2
    rw [← hL] at hla
    clear hL
    go_wp2_with (first
      | ((with_reducible refine at_load 25 ?_); refine wpList_loadAllW _ rfl 25 _ rfl w.heap.size 25 s.cells hb2 _ rfl Tryz.underlying25 rfl infSpan ?_))
    · refine hla.mono ?_
      rintro e W3 ⟨rfl, hB3⟩
      go_wp2
      go_ret
      refine ⟨ret_bool ?_, B2.trans (hB3.mono B2.size)⟩
      rw [HL.out, hl.out]
      simp only [Sp.has, decide_eq_decide]
      omega
    · go_ret
      refine ⟨ret_bool ?_, B2⟩
      simp only [Sp.has, eq_comm (a := false), decide_eq_false_iff_not]
      omega

/-! the reference's -/
end Go.Proofs.YtpellkblaeeopaaGreatDoor
/-
  Walks: Within of both; span.Pages.
-/
namespace Go.Proofs.YtpellkblaeeopaaGreatDoor
open Go.RowKit

set_option maxRecDepth 100000 in
set_option maxHeartbeats 2000000 in
theorem within_any (s t : Sp) (ok : s.ok) (okt : t.ok) (w : World) : Calls Tryz.prog 82 #[.agg s.cells, .agg t.cells] w (BoolRet w (s.within t)) := by
  have hbS := (Blk.new w 25 s.cells).alloc (.cells t.cells 25)
  have hbT := Blk.new (w.alloc (.cells s.cells 25)) 25 t.cells
  rw [World.size_alloc] at hbT
  have B1 : Below w.heap.size w ((w.alloc (.cells s.cells 25)).alloc (.cells t.cells 25)) := ((Below.refl _ _).alloc (Nat.le_refl _) _).alloc (by simp) _
  have k1 := ok.base
  have k2 := ok.size
  have k3 := okt.base
  have k4 := okt.size
  cases hgs : s.good with
  | false =>
    have hx : Hid (s.within t = false) := Lib.hid (by simp [Sp.within, hgs])
    have hg : ∀ W, Calls Tryz.prog 20 #[.agg s.cells] W (BoolRet W false) := fun W => by have := good_any s ok W; rwa [hgs] at this
    clear hgs
    go_enter Tryz.func82, Tryz.ntmps82
    go_wp2_with fail
    generalize (w.alloc (.cells s.cells 25)).alloc (.cells t.cells 25) = W1 at *
    refine Flow.wp_region_flow (W1.heap.size) [] [] (by kernel_rfl) (by kernel_rfl) (Nat.le_refl _) (fun _ h => by cases h) Flow.facts_nil ?_
    refine Flow.pass_val (.agg s.cells) (Flow.met_none rfl) (fun a W hH => ?_) ?_
    · have e0 := Flow.see_old 2 hH.sees (by kernel_rfl) (by kernel_rfl) rfl
      exact reg_load 25 _ rfl e0 (hbS.drew.below hH.below hbS.lt) Tryz.underlying25 rfl infSpan
    refine Flow.pass_step (Reg.eqs (.bool false)) (fun _ _ => Flow.kept_eqs _ _) (Flow.met_none rfl) (fun a W hH => ?_) ?_
    · have e0 := Flow.see_new 5 0 hH.sees (by kernel_rfl) (by kernel_rfl) rfl rfl
      refine Reg.wp_call rfl Tryz.func20 rfl (by kernel_rfl) (by simp [Act.eval, e0]) (hg W) ?_
      rintro e w' ⟨rfl, hB⟩
      exact ⟨_, rfl, _, rfl, hB, rfl⟩
    refine Flow.pass_copy 6 1 (Flow.met_none rfl) (.inl rfl) (by kernel_rfl) (by kernel_rfl) rfl rfl (fun _ _ => Flow.kept_eqs _ _) ?_
    refine Flow.pass_skip (fun a W hH => Flow.not_wanted 2 true 7 hH rfl rfl (by kernel_rfl) (by kernel_rfl) rfl rfl) ?_
    refine Flow.pass_skip (fun a W hH => Flow.not_wanted 2 true 7 hH rfl rfl (by kernel_rfl) (by kernel_rfl) rfl rfl) ?_
    refine Flow.pass_skip (fun a W hH => Flow.not_wanted 2 true 7 hH rfl rfl (by kernel_rfl) (by kernel_rfl) rfl rfl) ?_
    refine Flow.pass_skip (fun a W hH => Flow.not_wanted 2 true 7 hH rfl rfl (by kernel_rfl) (by kernel_rfl) rfl rfl) ?_
    refine Flow.pass_val (.bool false) (Flow.met_none rfl) (fun a W hH => ?_) ?_
    · have e0 := Flow.see_new 7 2 hH.sees (by kernel_rfl) (by kernel_rfl) rfl rfl
      have e1 := Flow.see_new 11 6 hH.sees (by kernel_rfl) (by kernel_rfl) rfl rfl
      go_simp; first | done | rfl
    refine Flow.pass_copy 12 7 (Flow.met_none rfl) (.inl rfl) (by kernel_rfl) (by kernel_rfl) rfl rfl (fun _ _ => Flow.kept_eqs _ _) ?_
    refine Flow.pass_skip (fun a W hH => Flow.not_wanted 8 true 13 hH rfl rfl (by kernel_rfl) (by kernel_rfl) rfl rfl) ?_
    refine Flow.pass_skip (fun a W hH => Flow.not_wanted 8 true 13 hH rfl rfl (by kernel_rfl) (by kernel_rfl) rfl rfl) ?_
    refine Flow.pass_skip (fun a W hH => Flow.not_wanted 8 true 13 hH rfl rfl (by kernel_rfl) (by kernel_rfl) rfl rfl) ?_
    refine Flow.pass_skip (fun a W hH => Flow.not_wanted 8 true 13 hH rfl rfl (by kernel_rfl) (by kernel_rfl) rfl rfl) ?_
    refine Flow.pass_val (.bool false) (Flow.met_none rfl) (fun a W hH => ?_) ?_
    · have e0 := Flow.see_new 13 8 hH.sees (by kernel_rfl) (by kernel_rfl) rfl rfl
      have e1 := Flow.see_new 17 12 hH.sees (by kernel_rfl) (by kernel_rfl) rfl rfl
      go_simp; first | done | rfl
    refine Flow.pass_copy 18 13 (Flow.met_none rfl) (.inr rfl) (by kernel_rfl) (by kernel_rfl) rfl rfl (fun _ _ => Flow.kept_eqs _ _) ?_
    refine Flow.pass_end [none, none, none, none, some 4, some 5, some 6, some 7, some 8, some 9, some 10, some 11, some 12, some 13, some 14, some 15, some 16, some 17, some 18] (by kernel_rfl) ?_
    intro f gg w9 hB hfa hT hfg
    have h4 : f 4 = _ := (hfg 4 14 (by kernel_rfl)).trans (hT 14 _ (by kernel_rfl) rfl)
    simp only [Reg.sel, h4]
    have B9 := B1.drew.trans (hB.mono B1.size)
    clear hT hfg hfa h4
    go_wp2
    go_ret
    refine ⟨ret_bool ?_, B9⟩
    rw [hx.out]
  | true =>
    have hg : ∀ W, Calls Tryz.prog 20 #[.agg s.cells] W (BoolRet W true) := fun W => by have := good_any s ok W; rwa [hgs] at this
    have q1 := Sp.good_iff.1 hgs
    cases hh : t.has s.base with
    | false =>
      have hx : Hid (s.within t = false) := Lib.hid (by
        simp only [Sp.has, decide_eq_false_iff_not] at hh
        simp only [Sp.within, decide_eq_false_iff_not, Sp.good_iff]; omega)
      have hh1 : ∀ W, Calls Tryz.prog 103 #[.agg t.cells, .int .u64 (s.base : Int)] W (BoolRet W false) := fun W => by have := has_any t okt s.base k1 W; rwa [hh] at this
      clear hgs hh
      go_enter Tryz.func82, Tryz.ntmps82
      go_wp2_with fail
      generalize (w.alloc (.cells s.cells 25)).alloc (.cells t.cells 25) = W1 at *
      refine Flow.wp_region_flow (W1.heap.size) [] [] (by kernel_rfl) (by kernel_rfl) (Nat.le_refl _) (fun _ h => by cases h) Flow.facts_nil ?_
      refine Flow.pass_val (.agg s.cells) (Flow.met_none rfl) (fun a W hH => ?_) ?_
      · have e0 := Flow.see_old 2 hH.sees (by kernel_rfl) (by kernel_rfl) rfl
        exact reg_load 25 _ rfl e0 (hbS.drew.below hH.below hbS.lt) Tryz.underlying25 rfl infSpan
      refine Flow.pass_step (Reg.eqs (.bool true)) (fun _ _ => Flow.kept_eqs _ _) (Flow.met_none rfl) (fun a W hH => ?_) ?_
      · have e0 := Flow.see_new 5 0 hH.sees (by kernel_rfl) (by kernel_rfl) rfl rfl
        refine Reg.wp_call rfl Tryz.func20 rfl (by kernel_rfl) (by simp [Act.eval, e0]) (hg W) ?_
        rintro e w' ⟨rfl, hB⟩
        exact ⟨_, rfl, _, rfl, hB, rfl⟩
      refine Flow.pass_copy 6 1 (Flow.met_none rfl) (.inl rfl) (by kernel_rfl) (by kernel_rfl) rfl rfl (fun _ _ => Flow.kept_eqs _ _) ?_
      refine Flow.pass_val (.agg t.cells) (Flow.met_some 2 true 7 rfl rfl (by kernel_rfl) (by kernel_rfl) rfl rfl) (fun a W hH => ?_) ?_
      · have e0 := Flow.see_old 3 hH.sees (by kernel_rfl) (by kernel_rfl) rfl
        exact reg_load 25 _ rfl e0 (hbT.drew.below hH.below hbT.lt) Tryz.underlying25 rfl infSpan
      refine Flow.pass_val (.pointer (some ⟨w.heap.size, 0, none⟩)) (Flow.met_some 2 true 7 rfl rfl (by kernel_rfl) (by kernel_rfl) rfl rfl) (fun a W hH => ?_) ?_
      · have e0 := Flow.see_old 2 hH.sees (by kernel_rfl) (by kernel_rfl) rfl
        go_simp; first | done | rfl
      refine Flow.pass_val (.int .u64 (s.base : Int)) (Flow.met_some 2 true 7 rfl rfl (by kernel_rfl) (by kernel_rfl) rfl rfl) (fun a W hH => ?_) ?_
      · have e0 := Flow.see_new 9 4 hH.sees (by kernel_rfl) (by kernel_rfl) rfl rfl
        have cc := (sp_cells (hbS.drew.below hH.below hbS.lt)).1; go_simp
      refine Flow.pass_step (Reg.eqs (.bool false)) (fun _ _ => Flow.kept_eqs _ _) (Flow.met_some 2 true 7 rfl rfl (by kernel_rfl) (by kernel_rfl) rfl rfl) (fun a W hH => ?_) ?_
      · have e0 := Flow.see_new 8 3 hH.sees (by kernel_rfl) (by kernel_rfl) rfl rfl
        have e1 := Flow.see_new 10 5 hH.sees (by kernel_rfl) (by kernel_rfl) rfl rfl
        refine Reg.wp_call rfl Tryz.func103 rfl (by kernel_rfl) (by simp [Act.eval, e0, e1]) (hh1 W) ?_
        rintro e w' ⟨rfl, hB⟩
        exact ⟨_, rfl, _, rfl, hB, rfl⟩
      refine Flow.pass_val (.bool false) (Flow.met_none rfl) (fun a W hH => ?_) ?_
      · have e0 := Flow.see_new 7 2 hH.sees (by kernel_rfl) (by kernel_rfl) rfl rfl
        have e1 := Flow.see_new 11 6 hH.sees (by kernel_rfl) (by kernel_rfl) rfl rfl
        go_simp; first | done | rfl
      refine Flow.pass_copy 12 7 (Flow.met_none rfl) (.inl rfl) (by kernel_rfl) (by kernel_rfl) rfl rfl (fun _ _ => Flow.kept_eqs _ _) ?_
      refine Flow.pass_skip (fun a W hH => Flow.not_wanted 8 true 13 hH rfl rfl (by kernel_rfl) (by kernel_rfl) rfl rfl) ?_
      refine Flow.pass_skip (fun a W hH => Flow.not_wanted 8 true 13 hH rfl rfl (by kernel_rfl) (by kernel_rfl) rfl rfl) ?_
      refine Flow.pass_skip (fun a W hH => Flow.not_wanted 8 true 13 hH rfl rfl (by kernel_rfl) (by kernel_rfl) rfl rfl) ?_
      refine Flow.pass_skip (fun a W hH => Flow.not_wanted 8 true 13 hH rfl rfl (by kernel_rfl) (by kernel_rfl) rfl rfl) ?_
      refine Flow.pass_val (.bool false) (Flow.met_none rfl) (fun a W hH => ?_) ?_
      · have e0 := Flow.see_new 13 8 hH.sees (by kernel_rfl) (by kernel_rfl) rfl rfl
        have e1 := Flow.see_new 17 12 hH.sees (by kernel_rfl) (by kernel_rfl) rfl rfl
        go_simp; first | done | rfl
      refine Flow.pass_copy 18 13 (Flow.met_none rfl) (.inr rfl) (by kernel_rfl) (by kernel_rfl) rfl rfl (fun _ _ => Flow.kept_eqs _ _) ?_
      refine Flow.pass_end [none, none, none, none, some 4, some 5, some 6, some 7, some 8, some 9, some 10, some 11, some 12, some 13, some 14, some 15, some 16, some 17, some 18] (by kernel_rfl) ?_
      intro f gg w9 hB hfa hT hfg
      have h4 : f 4 = _ := (hfg 4 14 (by kernel_rfl)).trans (hT 14 _ (by kernel_rfl) rfl)
      simp only [Reg.sel, h4]
      have B9 := B1.drew.trans (hB.mono B1.size)
      clear hT hfg hfa h4
      go_wp2
      go_ret
      refine ⟨ret_bool ?_, B9⟩
      rw [hx.out]
    | true =>
      have hh1 : ∀ W, Calls Tryz.prog 103 #[.agg t.cells, .int .u64 (s.base : Int)] W (BoolRet W true) := fun W => by have := has_any t okt s.base k1 W; rwa [hh] at this
      obtain ⟨L, hL⟩ : ∃ L, L = s.last := ⟨_, rfl⟩
      obtain ⟨H, hH'⟩ : ∃ H, H = t.has L := ⟨_, rfl⟩
      have hlt : L < 18446744073709551616 := by rw [hL]; exact s.last_lt ok
      have hx : Hid (s.within t = H) := Lib.hid (by
        have e1 : s.last = s.base + s.size - 1 := by simp [Sp.last, hgs]
        rw [hH', hL, e1]
        simp only [Sp.has, decide_eq_true_eq] at hh
        simp only [Sp.within, Sp.has, decide_eq_decide, Sp.good_iff]; omega)
      have hl : ∀ W, Calls Tryz.prog 17 #[.agg s.cells] W (NatRet W L) := fun W => by have := last_any s ok W; rwa [← hL] at this
      have hh2 : ∀ W, Calls Tryz.prog 103 #[.agg t.cells, .int .u64 (L : Int)] W (BoolRet W H) := fun W => by have := has_any t okt L hlt W; rwa [← hH'] at this
      clear hgs hh hL hH'
      go_enter Tryz.func82, Tryz.ntmps82
      go_wp2_with fail
      generalize (w.alloc (.cells s.cells 25)).alloc (.cells t.cells 25) = W1 at *
      refine Flow.wp_region_flow (W1.heap.size) [] [] (by kernel_rfl) (by kernel_rfl) (Nat.le_refl _) (fun _ h => by cases h) Flow.facts_nil ?_
      refine Flow.pass_val (.agg s.cells) (Flow.met_none rfl) (fun a W hH => ?_) ?_
      · have e0 := Flow.see_old 2 hH.sees (by kernel_rfl) (by kernel_rfl) rfl
        exact reg_load 25 _ rfl e0 (hbS.drew.below hH.below hbS.lt) Tryz.underlying25 rfl infSpan
      refine Flow.pass_step (Reg.eqs (.bool true)) (fun _ _ => Flow.kept_eqs _ _) (Flow.met_none rfl) (fun a W hH => ?_) ?_
      · have e0 := Flow.see_new 5 0 hH.sees (by kernel_rfl) (by kernel_rfl) rfl rfl
        refine Reg.wp_call rfl Tryz.func20 rfl (by kernel_rfl) (by simp [Act.eval, e0]) (hg W) ?_
        rintro e w' ⟨rfl, hB⟩
        exact ⟨_, rfl, _, rfl, hB, rfl⟩
      refine Flow.pass_copy 6 1 (Flow.met_none rfl) (.inl rfl) (by kernel_rfl) (by kernel_rfl) rfl rfl (fun _ _ => Flow.kept_eqs _ _) ?_
      refine Flow.pass_val (.agg t.cells) (Flow.met_some 2 true 7 rfl rfl (by kernel_rfl) (by kernel_rfl) rfl rfl) (fun a W hH => ?_) ?_
      · have e0 := Flow.see_old 3 hH.sees (by kernel_rfl) (by kernel_rfl) rfl
        exact reg_load 25 _ rfl e0 (hbT.drew.below hH.below hbT.lt) Tryz.underlying25 rfl infSpan
      refine Flow.pass_val (.pointer (some ⟨w.heap.size, 0, none⟩)) (Flow.met_some 2 true 7 rfl rfl (by kernel_rfl) (by kernel_rfl) rfl rfl) (fun a W hH => ?_) ?_
      · have e0 := Flow.see_old 2 hH.sees (by kernel_rfl) (by kernel_rfl) rfl
        go_simp; first | done | rfl
      refine Flow.pass_val (.int .u64 (s.base : Int)) (Flow.met_some 2 true 7 rfl rfl (by kernel_rfl) (by kernel_rfl) rfl rfl) (fun a W hH => ?_) ?_
      · have e0 := Flow.see_new 9 4 hH.sees (by kernel_rfl) (by kernel_rfl) rfl rfl
        have cc := (sp_cells (hbS.drew.below hH.below hbS.lt)).1; go_simp
      refine Flow.pass_step (Reg.eqs (.bool true)) (fun _ _ => Flow.kept_eqs _ _) (Flow.met_some 2 true 7 rfl rfl (by kernel_rfl) (by kernel_rfl) rfl rfl) (fun a W hH => ?_) ?_
      · have e0 := Flow.see_new 8 3 hH.sees (by kernel_rfl) (by kernel_rfl) rfl rfl
        have e1 := Flow.see_new 10 5 hH.sees (by kernel_rfl) (by kernel_rfl) rfl rfl
        refine Reg.wp_call rfl Tryz.func103 rfl (by kernel_rfl) (by simp [Act.eval, e0, e1]) (hh1 W) ?_
        rintro e w' ⟨rfl, hB⟩
        exact ⟨_, rfl, _, rfl, hB, rfl⟩
      refine Flow.pass_val (.bool true) (Flow.met_none rfl) (fun a W hH => ?_) ?_
      · have e0 := Flow.see_new 7 2 hH.sees (by kernel_rfl) (by kernel_rfl) rfl rfl
        have e1 := Flow.see_new 11 6 hH.sees (by kernel_rfl) (by kernel_rfl) rfl rfl
        go_simp; first | done | rfl
      refine Flow.pass_copy 12 7 (Flow.met_none rfl) (.inl rfl) (by kernel_rfl) (by kernel_rfl) rfl rfl (fun _ _ => Flow.kept_eqs _ _) ?_
      refine Flow.pass_val (.agg t.cells) (Flow.met_some 8 true 13 rfl rfl (by kernel_rfl) (by kernel_rfl) rfl rfl) (fun a W hH => ?_) ?_
      · have e0 := Flow.see_old 3 hH.sees (by kernel_rfl) (by kernel_rfl) rfl
        exact reg_load 25 _ rfl e0 (hbT.drew.below hH.below hbT.lt) Tryz.underlying25 rfl infSpan
      refine Flow.pass_val (.agg s.cells) (Flow.met_some 8 true 13 rfl rfl (by kernel_rfl) (by kernel_rfl) rfl rfl) (fun a W hH => ?_) ?_
      · have e0 := Flow.see_old 2 hH.sees (by kernel_rfl) (by kernel_rfl) rfl
        exact reg_load 25 _ rfl e0 (hbS.drew.below hH.below hbS.lt) Tryz.underlying25 rfl infSpan
      refine Flow.pass_step (Reg.eqs (.int .u64 (L : Int))) (fun _ _ => Flow.kept_eqs _ _) (Flow.met_some 8 true 13 rfl rfl (by kernel_rfl) (by kernel_rfl) rfl rfl) (fun a W hH => ?_) ?_
      · have e0 := Flow.see_new 15 10 hH.sees (by kernel_rfl) (by kernel_rfl) rfl rfl
        refine Reg.wp_call rfl Tryz.func17 rfl (by kernel_rfl) (by simp [Act.eval, e0]) (hl W) ?_
        rintro e w' ⟨rfl, hB⟩
        exact ⟨_, rfl, _, rfl, hB, rfl⟩
      refine Flow.pass_step (Reg.eqs (.bool H)) (fun _ _ => Flow.kept_eqs _ _) (Flow.met_some 8 true 13 rfl rfl (by kernel_rfl) (by kernel_rfl) rfl rfl) (fun a W hH => ?_) ?_
      · have e0 := Flow.see_new 14 9 hH.sees (by kernel_rfl) (by kernel_rfl) rfl rfl
        have e1 := Flow.see_new 16 11 hH.sees (by kernel_rfl) (by kernel_rfl) rfl rfl
        refine Reg.wp_call rfl Tryz.func103 rfl (by kernel_rfl) (by simp [Act.eval, e0, e1]) (hh2 W) ?_
        rintro e w' ⟨rfl, hB⟩
        exact ⟨_, rfl, _, rfl, hB, rfl⟩
      refine Flow.pass_val (.bool H) (Flow.met_none rfl) (fun a W hH => ?_) ?_
      · have e0 := Flow.see_new 13 8 hH.sees (by kernel_rfl) (by kernel_rfl) rfl rfl
        have e1 := Flow.see_new 17 12 hH.sees (by kernel_rfl) (by kernel_rfl) rfl rfl
        go_simp; first | done | rfl
      refine Flow.pass_copy 18 13 (Flow.met_none rfl) (.inr rfl) (by kernel_rfl) (by kernel_rfl) rfl rfl (fun _ _ => Flow.kept_eqs _ _) ?_
      refine Flow.pass_end [none, none, none, none, some 4, some 5, some 6, some 7, some 8, some 9, some 10, some 11, some 12, some 13, some 14, some 15, some 16, some 17, some 18] (by kernel_rfl) ?_
      intro f gg w9 hB hfa hT hfg
      have h4 : f 4 = _ := (hfg 4 14 (by kernel_rfl)).trans (hT 14 _ (by kernel_rfl) rfl)
      simp only [Reg.sel, h4]
      have B9 := B1.drew.trans (hB.mono B1.size)
      clear hT hfg hfa h4
      go_wp2
      go_ret
      refine ⟨ret_bool ?_, B9⟩
      rw [hx.out]

end Go.Proofs.YtpellkblaeeopaaGreatDoor
/-
  Walks: span.Pages (through slices.ContainsFunc, slices.IndexFunc).
-/
namespace Go.Proofs.YtpellkblaeeopaaGreatDoor
open Go.RowKit

section
variable {P : Program} {ops : Array Oper} {rest : List Oper} {o : Oper} {a : Act} {Q : Exit → Act → World → Prop}
/-- a call of a function value -/
theorem wpList_callV {w : World} {f : FuncId} {fn : Func} {c : Code} {x : Tmp} {args : Array Operand} {tys : Array TypeId} {caps vals : Array Value} {R : Ending → World → Prop} (hgd : o.guard = none)
    (ho : o.op = .call { callee := .value (.tmp x), args := args, argTypes := tys }) (hx : a.tmps[x]?.getD undef = .func (.func f) #[] caps) (hf : P.funcs[f]? = some fn) (hb : fn.body = some c) (hname : (fn.name == "runtime.NumGoroutine") = false)
    (hv : args.map a.eval ++ caps = vals) (h : Calls P f vals w R) (hR : ∀ e w', R e w' → ∃ v, e = .returned v ∧ wpList P ops Q rest (a.put o.dst v) w') : wpList P ops Q (o :: rest) a w := by
  refine wpList_plain hgd fun K hK => ?_
  have h1 : fn.name ≠ "runtime.NumGoroutine" := by simpa using hname
  have hrun : (execOp a.eval o).run P w = .ok (.enter f vals) w := by
    simp [execOp, ho, resolve, Act.eval, hx, Deferred.ofValue, invoke, callFunc, hf, h1, hb]
    exact hv
  unfold Oper.wp
  rw [hrun]
  refine Calls.mono h fun e w' hr => ?_
  obtain ⟨v, rfl, h2⟩ := hR e w' hr
  exact hK _ _ h2
end
section
variable {P : Program} {ops : Array Oper} {rest : List Oper} {a : Act} {w : World} {Q : Exit → Act → World → Prop} {dst : Option Tmp} {ty : TypeId} {pos : String} {aft : Array Edge} {gd : Option (Nat × Bool)}
theorem at_callV (x : Tmp) {args : Array Operand} {tys : Array TypeId} (h : wpList P ops Q (⟨dst, .call ⟨.value (.tmp x), args, tys⟩, ty, pos, aft, gd⟩ :: rest) a w) : wpList P ops Q (⟨dst, .call ⟨.value (.tmp x), args, tys⟩, ty, pos, aft, gd⟩ :: rest) a w := h
end

theorem or_pages (a b : Nat) : (a ||| b) % 4096 = 0 ↔ a % 4096 = 0 ∧ b % 4096 = 0 := by
  have := Nat.or_mod_two_pow (a := a) (b := b) (n := 12)
  rw [show (2 : Nat) ^ 12 = 4096 from rfl] at this
  rw [this, Nat.or_eq_zero_iff]

set_option maxRecDepth 100000 in
theorem notPages_any (s : Sp) (ok : s.ok) (w : World) : Calls Tryz.prog 49 #[.agg s.cells] w (BoolRet w (!s.pages)) := by
  have hb := Blk.new w 25 s.cells
  have B : Below w.heap.size w (w.alloc (.cells s.cells 25)) := (Below.refl _ _).alloc (Nat.le_refl _) _
  have k1 := ok.base
  have k2 := ok.size
  go_enter Tryz.func49, Tryz.ntmps49
  go_wp2_with ((with_reducible refine at_load 25 ?_); refine wpList_loadAll _ rfl 25 _ rfl w.heap.size 25 s.cells hb _ rfl Tryz.underlying25 rfl infSpan ?_)
  generalize w.alloc (.cells s.cells 25) = W at *
  refine (good_any s ok W).mono ?_
  rintro e W2 ⟨rfl, hB⟩
  have hb2 := hb.below hB hb.lt
  obtain ⟨c0, c1⟩ := sp_cells hb2
  have B2 := B.trans (hB.mono B.size)
  clear hb B hB
  cases hg : s.good with
  | false =>
    have hx : Hid (s.pages = false) := Lib.hid (by simp [Sp.pages, hg])
    clear hg
    go_wp2
    go_ret
    refine ⟨ret_bool ?_, B2⟩
    rw [hx.out]; rfl
  | true =>
    have hx : Hid (s.pages = decide (s.base % 4096 = 0 ∧ s.size % 4096 = 0)) := Lib.hid (by simp [Sp.pages, hg])
    clear hg
    go_wp2
    all_goals
      go_ret
      refine ⟨ret_bool ?_, B2⟩
      rw [hx.out]
      rw [u64_or_nat _ _ k1 k2, Bool.eq_iff_iff]
      rw [show ((s.base ||| s.size : Nat) : Int).tmod 4096 = (((s.base ||| s.size) % 4096 : Nat) : Int) from rfl]
      simp only [bne_iff_ne, ne_eq, Bool.not_eq_true', decide_eq_false_iff_not, ← or_pages]
      omega
def scells (l : List Sp) : List Value := l.flatMap (·.cells.toList)
theorem scells_length (l : List Sp) : (scells l).length = l.length * 2 := by
  induction l with
  | nil => rfl
  | cons s l ih => simp only [scells, List.flatMap_cons, List.length_append] at *; rw [ih]; simp [Sp.cells]; omega
theorem scells_get : ∀ (l : List Sp) (k : Nat) (s : Sp), l[k]? = some s → ((scells l).drop (k * 2)).take 2 = s.cells.toList
  | [], k, s, h => by simp at h
  | x :: l, 0, s, h => by
    simp at h; subst h
    simp [scells, Sp.cells]
  | x :: l, k + 1, s, h => by
    have := scells_get l k s (by simpa using h)
    simp only [scells, List.flatMap_cons]
    rw [show (k + 1) * 2 = 2 + k * 2 by omega, ← List.drop_drop, List.drop_left' (by simp [Sp.cells])]
    exact this
/-- the k-th span of a row -/
theorem rd_span {w : World} {B n : Nat} {b off : Nat} {l : List Sp} (h : Rd w B 2 (some ⟨b, off, none⟩) n (scells l)) (k : Nat) (s : Sp) (hk : l[k]? = some s) : w.rangeAt b (off + k * 2) s.cells.toList := by
  obtain ⟨hlt, _⟩ := List.getElem?_eq_some_iff.1 hk
  have hn : n = l.length := by have := h.len; rw [scells_length] at this; omega
  obtain ⟨b', off', e, _, hr⟩ := h.range (by omega)
  cases e
  intro j v hv
  have hg := scells_get l k s hk
  have hv2 : (scells l)[k * 2 + j]? = some v := by
    have h1 : (((scells l).drop (k * 2)).take 2)[j]? = some v := by rw [hg]; exact hv
    rw [List.getElem?_take] at h1
    split at h1
    · rwa [List.getElem?_drop] at h1
    · cases h1
  have := hr (k * 2 + j) v hv2
  rwa [← Nat.add_assoc] at this

set_option maxRecDepth 100000 in
set_option maxHeartbeats 1000000 in
theorem idxPages_any (b off n c : Nat) (l : List Sp) (hok : ∀ s ∈ l, s.ok) (w : World) (hR : Rd w w.heap.size 2 (some ⟨b, off, none⟩) n (scells l)) (hn : n ≤ 1000000) :
    Calls Tryz.prog 85 #[.slice (some ⟨b, off, none⟩) n c, .func (.func 49) #[] #[]] w fun e w' =>
      ∃ i : Int, e = .returned (.int .i64 i) ∧ decide (0 ≤ i) = !(l.all Sp.pages) ∧ Below w.heap.size w w' := by
  have hnl : n = l.length := by have := hR.len; rw [scells_length] at this; omega
  have HL := Lib.hid hnl
  have HOK := Lib.hid hok
  clear hnl hok
  go_enter Tryz.func85, Tryz.ntmps85
  go_wp2
  go_loopw [8] (fun i wr => ∃ k : Nat, k ≤ n ∧ i = .int .i64 k ∧ Hid (∀ s ∈ l.take k, s.pages = true) ∧ Below w.heap.size w wr) (fun i _ => n - (intOf i).toNat)
  case atStart => exact ⟨0, Nat.zero_le _, rfl, Lib.hid (by simp), Below.refl _ _⟩
  case round =>
    obtain ⟨k, hk, rfl, hall, hB⟩ := hrel
    by_cases hlt : k < n
    · obtain ⟨s, hs⟩ : ∃ s, l[k]? = some s := ⟨_, List.getElem?_eq_getElem (by rw [← HL.out]; exact hlt)⟩
      have hok : s.ok := HOK.out s (List.mem_of_getElem? hs)
      have hrng := rd_span (hR.below hB) k s hs
      have HS := Lib.hid hs
      have hcall := notPages_any s hok wr
      obtain ⟨p, hp⟩ : ∃ p, p = s.pages := ⟨_, rfl⟩
      rw [← hp] at hcall
      have HP := Lib.hid hp
      clear hs hp
      cases p with
      | true =>
        go_wp2_with (first
          | ((with_reducible refine at_load 25 ?_); refine wpList_load_mid rfl 25 _ rfl b (off + k * 2) rfl s.cells.toList _ hrng Tryz.underlying25 rfl infSpan ?_)
          | ((with_reducible refine at_callV 11 ?_); refine wpList_callV (vals := #[.agg s.cells]) rfl rfl rfl Tryz.func49 rfl (by kernel_rfl) (by simp [Act.eval, Act.put]) hcall ?_; rintro e w5 ⟨rfl, hB5⟩; refine ⟨_, rfl, ?_⟩))
        go_roundw
        case rel => exact ⟨k + 1, by omega, by go_num, Lib.hid (by
          intro x hx
          rw [List.take_add_one, HS.out] at hx
          simp only [Option.toList_some, List.mem_append, List.mem_singleton] at hx
          rcases hx with hx | rfl
          · exact hall.out x hx
          · exact HP.out.symm), hB.trans (hB5.mono hB.size)⟩
        case measure => simp [intOf]; omega
      | false =>
        go_wp2_with (first
          | ((with_reducible refine at_load 25 ?_); refine wpList_load_mid rfl 25 _ rfl b (off + k * 2) rfl s.cells.toList _ hrng Tryz.underlying25 rfl infSpan ?_)
          | ((with_reducible refine at_callV 11 ?_); refine wpList_callV (vals := #[.agg s.cells]) rfl rfl rfl Tryz.func49 rfl (by kernel_rfl) (by simp [Act.eval, Act.put]) hcall ?_; rintro e w5 ⟨rfl, hB5⟩; refine ⟨_, rfl, ?_⟩))
        go_ret
        refine ⟨_, rfl, ?_, hB.trans (hB5.mono hB.size)⟩
        have hf : l.all Sp.pages = false := by
          rw [List.all_eq_false]
          exact ⟨s, List.mem_of_getElem? HS.out, by rw [← HP.out]; simp⟩
        rw [hf]; simp
    · obtain rfl : k = n := by omega
      go_wp2
      go_ret
      refine ⟨_, rfl, ?_, hB⟩
      have hf : l.all Sp.pages = true := by
        rw [List.all_eq_true]
        intro x hx
        exact hall.out x (by rw [List.take_of_length_le (by rw [HL.out]; exact Nat.le_refl _)]; exact hx)
      rw [hf]; rfl

set_option maxRecDepth 100000 in
theorem mpages_any (b off n c : Nat) (l : List Sp) (hok : ∀ s ∈ l, s.ok) (w : World) (hR : Rd w w.heap.size 2 (some ⟨b, off, none⟩) n (scells l)) (hn : n ≤ 1000000) :
    Calls Tryz.prog 16 #[.slice (some ⟨b, off, none⟩) n c] w (BoolRet w (l.all Sp.pages)) := by
  have hcf : Calls Tryz.prog 48 #[.slice (some ⟨b, off, none⟩) n c, .func (.func 49) #[] #[]] w (BoolRet w (!(l.all Sp.pages))) := by
    go_enter Tryz.func48, Tryz.ntmps48
    go_wp2_with fail
    refine (idxPages_any b off n c l hok w hR hn).mono ?_
    rintro e w' ⟨i, rfl, hi, hB⟩
    go_wp2
    go_ret
    exact ⟨ret_bool (by first | rfl | exact hi), hB⟩
  obtain ⟨p, hp⟩ : ∃ p, p = l.all Sp.pages := ⟨_, rfl⟩
  rw [← hp] at hcf ⊢
  clear hp hok hR
  go_enter Tryz.func16, Tryz.ntmps16
  go_wp2_with fail
  refine hcf.mono ?_
  rintro e w' ⟨rfl, hB⟩
  go_wp2
  go_ret
  exact ⟨ret_bool (by simp), hB⟩
end Go.Proofs.YtpellkblaeeopaaGreatDoor
