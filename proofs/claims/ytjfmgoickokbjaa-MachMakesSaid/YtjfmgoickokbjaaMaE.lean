/-
  Walk: portreeveref09.Fit.
-/
import Derived.Test.YtjfmgoickokbjaaMaD
namespace Go.Proofs.Ytjfmgoickokbjaa
open Go.RowKit

theorem wpList_load_midW {P : Program} {ops : Array Oper} {rest : List Oper} {op : Oper} {a : Act} {w : World} {Q : Exit → Act → World → Prop} (hw : Region.wanted op (yielded ops a.tmps) = true) (ty : TypeId) (x : Operand) (ho : op.op = .load ty x)
    (b o : Nat) (hx : a.eval x = .pointer (some ⟨b, o, none⟩)) (cs : List Value) (d : TypeDesc) (hc : w.rangeAt b o cs)
    (hu : P.underlying ty = some d) (hd : d.isRow = true) (hi : (P.info? ty).map (·.size) = some cs.length)
    (h : wpList P ops Q rest (a.put op.dst (.agg cs.toArray)) w) : wpList P ops Q (op :: rest) a w :=
  wpList_runV hw (by
    unfold execOp
    simp only [ho, hx, Instr.loadAt, Instr.sureAddr, Sem.run_bind, Sem.run_pure, Result.andThen_ok, run_loadVar_mid w b o ty cs d hc hu hd hi]) h

set_option maxRecDepth 100000 in
set_option maxHeartbeats 4000000 in
theorem rfit_any (b : Bd) (ok : b.ok) (w : World) : Calls Try.prog 17 #[.agg b.cells] w fun e w' => e = .returned (.int .i64 b.err) ∧ Below w.heap.size w w' := by
  have hb := Blk.new w 39 b.cells
  have B0 : Below w.heap.size w (w.alloc (.cells b.cells 39)) := (Below.refl _ _).alloc (Nat.le_refl _) _
  have hr := bd_ram hb
  go_enter Try.func17, Try.ntmps17
  go_wp2_with ((with_reducible refine at_load 24 ?_); refine wpList_load_midW rfl 24 _ rfl w.heap.size 0 rfl b.ram.cells.toList _ hr Try.underlying24 rfl infSpan ?_)
  clear hr
  generalize w.alloc (.cells b.cells 39) = W0 at *
  refine (rpages_any b.ram ok.ram W0).mono ?_
  rintro e W1 ⟨rfl, hB1⟩
  have hb1 := hb.below hB1 hb.lt
  have B1 := B0.trans (hB1.mono B0.size)
  clear hb B0 hB1
  cases hp : b.ram.pages with
  | false =>
    have he : Hid (b.err = 282) := Lib.hid (Bd.err_bad (by rw [Bd.spans, hp]; rfl))
    clear hp
    go_wp2
    go_ret
    exact ⟨ret_int he.out.symm, B1⟩
  | true =>
    have HP1 := Lib.hid hp
    have hl := bd_ldr hb1
    clear hp
    go_wp2_with ((with_reducible refine at_load 24 ?_); refine wpList_load_midW rfl 24 _ rfl w.heap.size 2 rfl b.ldr.cells.toList _ hl Try.underlying24 rfl infSpan ?_)
    refine (rpages_any b.ldr ok.ldr W1).mono ?_
    rintro e W2 ⟨rfl, hB2⟩
    have hb2 := hb1.below hB2 hb1.lt
    have B2 := B1.trans (hB2.mono B1.size)
    clear hl hb1 B1 hB2
    cases hp : b.ldr.pages with
    | false =>
      have he : Hid (b.err = 282) := Lib.hid (Bd.err_bad (by rw [Bd.spans, hp]; simp))
      clear hp
      go_wp2
      go_ret
      exact ⟨ret_int he.out.symm, B2⟩
    | true =>
      have HP2 := Lib.hid hp
      have hr := bd_ram hb2
      clear hp
      go_wp2_with ((with_reducible refine at_load 24 ?_); refine wpList_load_midW rfl 24 _ rfl w.heap.size 0 rfl b.ram.cells.toList _ hr Try.underlying24 rfl infSpan ?_)
      refine (rlast_any b.ram ok.ram W2).mono ?_
      rintro e W3 ⟨rfl, hB3⟩
      obtain ⟨L, hL⟩ : ∃ L, L = b.ram.last := ⟨_, rfl⟩
      rw [← hL]
      have HL := Lib.hid hL
      have hb3 := hb2.below hB3 hb2.lt
      have B3 := B2.trans (hB3.mono B2.size)
      have hr := bd_ram hb3
      have hl := bd_ldr hb3
      clear hL hb2 B2 hB3
      by_cases hge : 1099511627776 ≤ L
      · have hd : decide ((1099511627776 : Int) ≤ (L : Int)) = true := decide_eq_true (by omega)
        have he : Hid (b.err = 282) := Lib.hid (Bd.err_bad (by
          have : ¬ b.ram.last < 1099511627776 := by have := HL.out; omega
          rw [Bd.spans, decide_eq_false this]; simp))
        clear hge hr hl
        go_wp2
        go_ret
        exact ⟨ret_int he.out.symm, B3⟩
      · have hd : decide ((1099511627776 : Int) ≤ (L : Int)) = false := decide_eq_false (by omega)
        have HG : Hid (b.ram.last < 1099511627776) := Lib.hid (by have := HL.out; omega)
        clear hge
        go_wp2_with (first
          | ((with_reducible refine at_load 24 ?_); refine wpList_load_midW rfl 24 _ rfl w.heap.size 0 rfl b.ram.cells.toList _ hr Try.underlying24 rfl infSpan ?_)
          | ((with_reducible refine at_load 24 ?_); refine wpList_load_midW rfl 24 _ rfl w.heap.size 2 rfl b.ldr.cells.toList _ hl Try.underlying24 rfl infSpan ?_))
        refine (rwithin_any b.ldr b.ram ok.ldr ok.ram W3).mono ?_
        rintro e W4 ⟨rfl, hB4⟩
        have hb4 := hb3.below hB4 hb3.lt
        have B4 := B3.trans (hB4.mono B3.size)
        clear hr hl hb3 B3 hB4
        obtain ⟨c4, c5, c6⟩ := bd_cells hb4
        cases hwi : b.ldr.within b.ram with
        | false =>
          have he : Hid (b.err = 282) := Lib.hid (Bd.err_bad (by rw [Bd.spans, hwi]; simp))
          clear hwi hb4
          go_wp2
          go_ret
          exact ⟨ret_int he.out.symm, B4⟩
        | true =>
          have hs : Hid (b.spans = true) := Lib.hid (by rw [Bd.spans, HP1.out, HP2.out, decide_eq_true HG.out, hwi]; rfl)
          have he : Hid (b.err = if decide (b.irqs < 0 ∨ 1020 < b.irqs ∨ b.streams < 0 ∨ 256 < b.streams ∨ b.cpus < 1 ∨ 32 < b.cpus) then 282 else 0) := Lib.hid (by
            rw [Bd.err_of hs.out, Bd.counts]
            by_cases hc : b.irqs < 0 ∨ 1020 < b.irqs ∨ b.streams < 0 ∨ 256 < b.streams ∨ b.cpus < 1 ∨ 32 < b.cpus
            · rw [decide_eq_true hc, decide_eq_false (by omega)]; rfl
            · rw [decide_eq_false hc, decide_eq_true (by omega)]; rfl)
          clear hwi hb4 hd
          go_wp2
          all_goals
            go_ret
            refine ⟨ret_int ?_, B4⟩
            rw [he.out]
            first
              | (rw [decide_eq_true (by omega)]; rfl)
              | (rw [decide_eq_false (by omega)]; rfl)
end Go.Proofs.Ytjfmgoickokbjaa
