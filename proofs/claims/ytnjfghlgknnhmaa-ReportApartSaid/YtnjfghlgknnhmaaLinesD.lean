/-
  Walk of the statement ReportApart.
-/
import Derived.Test.YtnjfghlgknnhmaaLinesC
namespace Go.Proofs.Ytnjfghlgknnhmaa
open Go.RowKit

set_option maxRecDepth 100000 in
set_option maxHeartbeats 2000000 in
theorem reportApart_walk (w : World) (x : Int) (wx : (Lit.int .i64 x).wf = true) (y : Int) (wy : (Lit.int .i64 y).wf = true) :
    Calls Try.prog 14 #[.int .i64 x, .int .i64 y] w fun e w' => e = .returned (.bool true) ∧ Below w.heap.size w w' := by
  have hx := Lib.hid (inI_of wx)
  have hy := Lib.hid (inI_of wy)
  clear wx wy
  have hinj := nameOf_inj x y
  have herr := errOf_name x
  obtain ⟨N, hN⟩ : ∃ N, N = nameOf x := ⟨_, rfl⟩
  obtain ⟨M, hM⟩ : ∃ M, M = nameOf y := ⟨_, rfl⟩
  rw [← hN] at hinj herr
  rw [← hM] at hinj
  obtain ⟨m, hm⟩ : ∃ m, m = (errOf N).getD 0 := ⟨_, rfl⟩
  obtain ⟨b, hb⟩ : ∃ b, b = (errOf N).isSome := ⟨_, rfl⟩
  rw [← hm, ← hb] at herr
  have HN := Lib.hid hN
  have HM := Lib.hid hM
  have Hm := Lib.hid hm
  have Hb := Lib.hid hb
  have Hinj := Lib.hid hinj
  have Herr := Lib.hid herr
  clear hN hM hm hb hinj herr
  go_enter Try.func14, Try.ntmps14
  go_wp2_with fail
  refine (awake33 w).mono ?_
  rintro e W1 ⟨rfl, B1⟩
  go_wp2_with fail
  refine (mName_any x hx.out.1 hx.out.2 _).mono ?_
  rintro e W2 ⟨rfl, B2⟩
  rw [← HN.out]
  have B2 := B1.trans (B2.mono B1.size)
  go_wp2_with fail
  refine (mOf_any N _).mono ?_
  rintro e W3 ⟨rfl, B3⟩
  rw [← Hm.out, ← Hb.out]
  have B3 := B2.trans (B3.mono B2.size)
  go_wp2_with fail
  refine (mName_any x hx.out.1 hx.out.2 _).mono ?_
  rintro e W4 ⟨rfl, B4⟩
  rw [← HN.out]
  have B4 := B3.trans (B4.mono B3.size)
  go_wp2_with fail
  refine (mName_any y hy.out.1 hy.out.2 _).mono ?_
  rintro e W5 ⟨rfl, B5⟩
  rw [← HM.out]
  have B5 := B4.trans (B5.mono B4.size)
  clear B1 B2 B3 B4
  have hNM : (N == M) = (x == y) := Hinj.out
  have hmx : b = true → (m : Int) = x := Herr.out
  cases b with
  | false =>
    go_wp2
    go_ret
    exact ⟨by simp, B5⟩
  | true =>
    have := hmx rfl
    go_wp2
    go_ret
    exact ⟨by simp, B5⟩
end Go.Proofs.Ytnjfghlgknnhmaa
