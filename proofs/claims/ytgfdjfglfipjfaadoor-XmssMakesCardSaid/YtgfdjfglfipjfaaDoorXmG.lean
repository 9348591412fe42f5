/-
  Walk: the law XmssMakes.
-/
import Derived.Test.YtgfdjfglfipjfaaDoorXmF
namespace Go.Proofs.YtgfdjfglfipjfaaDoor
open Go.RowKit Sha

set_option maxRecDepth 100000 in
set_option maxHeartbeats 4000000 in
theorem makes_core (o : Nat) (ro sd : Nd) (hro : ro.length = 32) (hsd : sd.length = 32) (w : World) (hT : Tabs w) (sec : Nd) (hsec : sec.length = 32) (idx : Int) (wi : (Lit.int .u32 idx).wf = true) (A : Option Addr) (n c : Nat) (au : List (List UInt8)) (hn : n = au.length) (_hnc : n ≤ c) (hR : Rd w w.heap.size 32 A n (ncells au)) (h32 : ∀ x ∈ au, x.length = 32)
    (r : Nd) (hr : r.length = 32) (Am : Option Addr) (nm cm : Nat) (m : List UInt8) (hm : Rd w w.heap.size 1 Am nm (bcells m)) (hnm : nm ≤ cm) (hcm : cm ≤ 9223372036854775807) :
    Calls Tryd.prog 8 #[.agg (keyCells o ro sd).toArray, .agg (bcells sec).toArray, .int .u32 idx, .slice A n c, .agg (bcells r).toArray, .slice Am nm cm] w fun e w' => e = .returned (.bool true) ∧ Below w.heap.size w w' := by
  obtain ⟨q, hq, rfl⟩ := u32_nat wi
  clear wi
  have roL := Lib.hid hro
  have sdL := Lib.hid hsd
  have secL := Lib.hid hsec
  have rL := Lib.hid hr
  have Ha := Lib.hid h32
  have Hn := Lib.hid hn
  have hk65 : Hid ((keyCells o ro sd).toArray.size = 65) := Lib.hid (by simp [keyCells, bcells_length, hro, hsd])
  have hbK := ((Blk.new w 42 (keyCells o ro sd).toArray).alloc (.cells (bcells sec).toArray 24)).alloc (.cells (bcells r).toArray 24)
  have hbA := (blk_new1 w (.cells (keyCells o ro sd).toArray 42) 24 (bcells sec).toArray).alloc (.cells (bcells r).toArray 24)
  have hbR := blk_new2 w (.cells (keyCells o ro sd).toArray 42) (.cells (bcells sec).toArray 24) 24 (bcells r).toArray
  have B0 : Below w.heap.size w (((w.alloc (.cells (keyCells o ro sd).toArray 42)).alloc (.cells (bcells sec).toArray 24)).alloc (.cells (bcells r).toArray 24)) := (((Below.refl _ _).alloc (Nat.le_refl _) _).alloc (by simp) _).alloc (by simp; omega) _
  clear hro hsd hsec hr h32 hn
  go_enter Tryd.func8, Tryd.ntmps8
  go_wp2_with fail
  generalize ((w.alloc (.cells (keyCells o ro sd).toArray 42)).alloc (.cells (bcells sec).toArray 24)).alloc (.cells (bcells r).toArray 24) = W0 at *
  refine (awake08 W0).mono ?_
  rintro e W1 ⟨rfl, hB1⟩
  have hbK1 := hbK.below hB1 hbK.lt
  have hbA1 := hbA.below hB1 hbA.lt
  have hbR1 := hbR.below hB1 hbR.lt
  have B1 := B0.trans (hB1.mono B0.size)
  clear hbK hbA hbR B0 hB1
  go_wp2_with (first
    | ((with_reducible refine at_load 42 ?_); refine wpList_loadAll _ rfl 42 (.tmp 6) rfl w.heap.size 42 (keyCells o ro sd).toArray hbK1 _ rfl Tryd.underlying42 rfl (by rw [hk65.out]; exact key65) ?_)
    | ((with_reducible refine at_load 24 ?_); refine wpList_loadAll _ rfl 24 (.tmp 7) rfl (w.heap.size + 1) 24 (bcells sec).toArray hbA1 _ rfl Tryd.underlying24 rfl (by rw [List.size_toArray, bcells_length, secL.out]; exact infNode) ?_)
    | ((with_reducible refine at_load 24 ?_); refine wpList_loadAll _ rfl 24 (.tmp 10) rfl (w.heap.size + 2) 24 (bcells r).toArray hbR1 _ rfl Tryd.underlying24 rfl (by rw [List.size_toArray, bcells_length, rL.out]; exact infNode) ?_))
  all_goals (try (go_ret; exact ⟨rfl, B1⟩))
  have k1 : nm ≤ 500 := by omega
  refine (mSign_any o ro sd sec r roL.out sdL.out secL.out rL.out q hq A n c au Hn.out Ha.out Am nm cm m k1 ⟨hnm, hcm⟩ W1 ((hR.below B1).more B1.size) ((hm.below B1).more B1.size) (hT.below B1)).mono ?_
  rintro e W2 ⟨A2, c2, rfl, h2, hR2, hB2⟩
  have B2 := B1.trans (hB2.mono B1.size)
  have hcall := rSign_any o ro sd sec r roL.out sdL.out secL.out rL.out q hq A n c au Hn.out Ha.out Am nm cm m k1 ⟨hnm, hcm⟩ W2 ((hR.below B2).more B2.size) ((hm.below B2).more B2.size)
  have hbK2 := hbK1.below hB2 hbK1.lt
  have hbA2 := hbA1.below hB2 hbA1.lt
  have hbR2 := hbR1.below hB2 hbR1.lt
  clear hbK1 hbA1 hbR1 B1
  generalize signVal o sec r ro sd q au m = VB at *
  generalize signErr o sec r ro sd q au m = VE at *
  go_wp2_with (first
    | ((with_reducible refine at_load 42 ?_); refine wpList_loadAll _ rfl 42 (.tmp 6) rfl w.heap.size 42 (keyCells o ro sd).toArray hbK2 _ rfl Tryd.underlying42 rfl (by rw [hk65.out]; exact key65) ?_)
    | ((with_reducible refine at_load 24 ?_); refine wpList_loadAll _ rfl 24 (.tmp 7) rfl (w.heap.size + 1) 24 (bcells sec).toArray hbA2 _ rfl Tryd.underlying24 rfl (by rw [List.size_toArray, bcells_length, secL.out]; exact infNode) ?_)
    | ((with_reducible refine at_load 24 ?_); refine wpList_loadAll _ rfl 24 (.tmp 10) rfl (w.heap.size + 2) 24 (bcells r).toArray hbR2 _ rfl Tryd.underlying24 rfl (by rw [List.size_toArray, bcells_length, rL.out]; exact infNode) ?_))
  refine hcall.mono ?_
  rintro e W3 ⟨A3, c3, rfl, h3, hR3, hB3⟩
  have B3 := B2.trans (hB3.mono B2.size)
  have hR23 := (hR2.below hB3).more hB3.size
  have s2 := strAt (c := c2) hR23
  have s3 := strAt (c := c3) hR3
  clear hcall hbK2 hbA2 hbR2
  go_wp2
  go_ret
  exact ⟨rfl, B3⟩
theorem xmssMakes_walk (w : World) (hT : Tabs w) (o : Nat) (ro sd : List UInt8) (_ho : o < 4294967296) (hro : ro.length = 32) (hsd : sd.length = 32) (sec : List UInt8) (hsec : sec.length = 32) (idx : Int) (wi : (Lit.int .u32 idx).wf = true)
    (A : Option Addr) (n c : Nat) (au : List (List UInt8)) (hn : n = au.length) (hnc : n ≤ c) (hR : Rd w w.heap.size 32 A n (ncells au)) (h32 : ∀ x ∈ au, x.length = 32)
    (r : List UInt8) (hr : r.length = 32) (Am : Option Addr) (nm cm : Nat) (m : List UInt8) (hm : Rd w w.heap.size 1 Am nm (bcells m)) (hnm : nm ≤ cm) (hcm : cm ≤ 9223372036854775807) :
    Calls Tryd.prog 8 #[.agg (keyCells o ro sd).toArray, .agg (bcells sec).toArray, .int .u32 idx, .slice A n c, .agg (bcells r).toArray, .slice Am nm cm] w fun e w' => e = .returned (.bool true) ∧ Below w.heap.size w w' :=
  makes_core o ro sd hro hsd w hT sec hsec idx wi A n c au hn hnc hR h32 r hr Am nm cm m hm hnm hcm
end Go.Proofs.YtgfdjfglfipjfaaDoor
