/-
  Walk of the statement XmssKeys.
-/
import Derived.Test.YtnjfghlgknnhmaaXmssG
import Derived.Test.YtnjfghlgknnhmaaStore2
namespace Go.Proofs.Ytnjfghlgknnhmaa
open Go.RowKit

theorem keyEq (l : List UInt8) (w : World) : (binOp .eql 41 (.agg (keyVal l).toArray) (.agg (keyVal l).toArray)).run Try.prog w = .ok (.bool true) w := by
  have hform : ∃ o r s, keyVal l = keyCells o r s ∧ o < 4294967296 ∧ r.length = 32 ∧ s.length = 32 := by
    unfold keyVal
    split
    · rename_i h
      simp only [keyOk, Bool.and_eq_true, beq_iff_eq] at h
      exact ⟨_, _, _, rfl, rdNum_lt l 0 4 false, by simp; omega, by simp; omega⟩
    · exact ⟨0, _, _, rfl, by omega, rfl, rfl⟩
  obtain ⟨o, r, s, e, ho, hr, hs⟩ := hform
  rw [e]
  clear e
  have h65 : Try.prog.cellsOf 41 = 65 := by kernel_rfl
  have c1 : Try.prog.cellsOf 22 = 1 := by kernel_rfl
  have c32 : Try.prog.cellsOf 29 = 32 := by kernel_rfl
  have c8 : Try.prog.cellsOf 5 = 1 := by kernel_rfl
  have hlen : (keyCells o r s).length = 65 := by simp [keyCells, bcells_length, hr, hs]
  have wfo : (Lit.int .u32 (o : Int)).wf = true := by simp [Lit.wf, IntKind.min, IntKind.max, IntKind.bits, IntKind.signed]; omega
  have e : keyCells o r s = [[.int .u32 (o : Int)], bcells r, bcells s].flatten := by simp [keyCells]
  have k0 := keyLits_int (P := Try.prog) (d := 1) Try.underlying22 (o : Int) wfo
  have k1 := keyLits_bytes (P := Try.prog) (d := 0) Try.underlying29 Try.underlying5 c8 c32 r hr
  have k2 := keyLits_bytes (P := Try.prog) (d := 0) Try.underlying29 Try.underlying5 c8 c32 s hs
  have hk := keyLits_struct (P := Try.prog) (d := 2) Try.underlying41 (by kernel_rfl) [[.int .u32 (o : Int)], bcells r, bcells s] _ (by rw [← e, hlen, h65])
    (fits_cons rfl c1 k0 (fits_cons rfl (by rw [bcells_length, hr]; exact c32) k1 (fits_cons (by rw [bcells_length, hr]; rfl) (by rw [bcells_length, hs]; exact c32) k2 fits_nil)))
  exact run_eql_self (m := 4) (D := 3) w (by omega) (by kernel_rfl) (formed_agg Try.underlying41 rfl (by rw [h65]; simp [hlen])) (by rw [List.toList_toArray, e]; exact hk)

theorem keyVal_length (l : List UInt8) : (keyVal l).length = 65 := by
  unfold keyVal
  split
  · rename_i h
    simp only [keyOk, Bool.and_eq_true, beq_iff_eq] at h
    simp [keyCells, bcells_length]; omega
  · rfl
theorem keyVal_one (l : List UInt8) : ∀ v ∈ (keyVal l).toArray.toList, v.oneCell' = true := by
  unfold keyVal; split <;> exact keyCells_one _ _ _
theorem key65 : (Try.prog.info? 41).map (·.size) = some 65 := by kernel_rfl
theorem zero65 : Try.zeroCells41.size = 65 := by kernel_rfl
theorem keyGuard : Try.prog.eqGuardType Try.prog.depth 41 = false := by kernel_rfl
theorem strAt {w : World} {B : Nat} {A : Option Addr} {n c : Nat} {l : List UInt8} (h : Rd w B 1 A n (bcells l)) : (convert 27 9 (.slice A n c)).run Try.prog w = .ok (.string ⟨l.toArray⟩) w :=
  run_str w _ _ _ A n c l Try.underlying27 Try.underlying5 Try.underlying9 h

set_option maxRecDepth 100000 in
set_option maxHeartbeats 4000000 in
theorem xmssKeys_walk (w : World) (A : Option Addr) (n c : Nat) (l : List UInt8) (h : Rd w w.heap.size 1 A n (bcells l)) (hnc : n ≤ c) (_hc : c ≤ 9223372036854775807)
    (o : Nat) (r s : List UInt8) (ho : o < 4294967296) (hr : r.length = 32) (hs : s.length = 32) :
    Calls Try.prog 5 #[.slice A n c, .agg (keyCells o r s).toArray] w fun e w' => e = .returned (.bool true) ∧ Below w.heap.size w w' := by
  have hb := Blk.new w 41 (keyCells o r s).toArray
  have B0 : Below w.heap.size w (w.alloc (.cells (keyCells o r s).toArray 41)) := (Below.refl _ _).alloc (Nat.le_refl _) _
  have hrl := Lib.hid hr
  have hsl := Lib.hid hs
  have hk65 : Hid ((keyCells o r s).toArray.size = 65) := Lib.hid (by simp [keyCells, bcells_length, hr, hs])
  have hv65 : Hid ((keyVal l).toArray.size = 65) := Lib.hid (by simp [keyVal_length])
  clear hr hs
  go_enter Try.func5, Try.ntmps5
  go_wp2_with fail
  generalize w.alloc (.cells (keyCells o r s).toArray 41) = W0 at *
  refine (awake08 W0).mono ?_
  rintro e W1 ⟨rfl, hB1⟩
  have hb := hb.below hB1 hb.lt
  have B1 := B0.trans (hB1.mono B0.size)
  by_cases h200 : n ≤ 200
  · go_wp2_with fail
    refine (mKeyOf_any A n c l W1 ((h.below B1).more B1.size) (by omega) hnc).mono ?_
    rintro e W2 ⟨rfl, hB2⟩
    have hb := hb.below hB2 hb.lt
    have B2 := B1.trans (hB2.mono B1.size)
    go_wp2_with ((with_reducible refine at_store 41 ?_); refine wpList_storeAll _ rfl 41 _ _ rfl W2.heap.size 41 _ (keyVal l).toArray (Blk.new W2 41 Try.zeroCells41) rfl rfl (by rw [hv65.out, zero65]) (by rw [hv65.out]; exact key65) (keyVal_one l) ?_; intro W3 hb3 hg3 hs3)
    have s3 : W3.heap.size = W2.heap.size + 1 := by rw [hs3]; simp
    have hlt2 := hb.lt
    have hb := (hb.alloc (.cells Try.zeroCells41 41)).grown hg3 (by simp; omega)
    have B3 := grown_below (B2.alloc B2.size _) hg3 (by simp; have := B2.size; omega) B2.size
    clear hg3 hs3 hB1 hB2
    refine (rKeyOf_any A n c l W3 ((h.below B3).more B3.size) (by omega) hnc).mono ?_
    rintro e W4 ⟨rfl, hB4⟩
    have hlt3 := hb3.lt
    have hb := hb.below hB4 hb.lt
    have hx := hb3.below hB4 hb3.lt
    have B4 := B3.trans (hB4.mono B3.size)
    have s4 := hB4.size
    have hlt4 := hb.lt
    have hlt5 := hx.lt
    have hb := hb.alloc (.cells Try.zeroCells41 41)
    have hx := hx.alloc (.cells Try.zeroCells41 41)
    have B4' := B4.alloc B4.size (.cells Try.zeroCells41 41)
    have hz := Blk.new W4 41 Try.zeroCells41
    go_wp2_with (first
      | ((with_reducible refine at_store 41 ?_); refine wpList_storeAll _ rfl 41 _ _ rfl W4.heap.size 41 _ (keyVal l).toArray hz rfl rfl (by rw [hv65.out, zero65]) (by rw [hv65.out]; exact key65) (keyVal_one l) ?_; intro W5 hb5 hg5 hs5; have hb6 := hb.grown hg5 (by simp; omega); have hx6 := hx.grown hg5 (by simp; omega); have B5 := grown_below B4' hg5 (by simp; have := B4.size; omega) B4.size)
      | ((with_reducible refine at_load 41 ?_); refine wpList_loadAll W5 rfl 41 _ rfl w.heap.size 41 (keyCells o r s).toArray hb6 _ rfl Try.underlying41 rfl (by rw [hk65.out]; exact key65) ?_))
    have hb := hb6
    have hx := hx6
    clear hg5 hs5 hB4 hb6 hx6
    refine (putKey_any o r s hrl.out hsl.out W5).mono ?_
    rintro e W6 ⟨A6, c6, rfl, _, r6, hB6⟩
    have hb := hb.below hB6 hb.lt
    have hx := hx.below hB6 hx.lt
    have hy := hb5.below hB6 hb5.lt
    have B6 := B5.trans (hB6.mono B5.size)
    go_wp2_with ((with_reducible refine at_load 41 ?_); refine wpList_loadAll W6 rfl 41 _ rfl w.heap.size 41 (keyCells o r s).toArray hb _ rfl Try.underlying41 rfl (by rw [hk65.out]; exact key65) ?_)
    refine (rPutKey_any o r s ho hrl.out hsl.out W6).mono ?_
    rintro e W7 ⟨A7, c7, rfl, _, r7, hB7⟩
    have hx := hx.below hB7 hx.lt
    have hy := hy.below hB7 hy.lt
    have B7 := B6.trans (hB7.mono B6.size)
    have r6 := r6.below hB7
    have x6 := strAt (c := c6) r6
    have x7 := strAt (c := c7) r7
    have he := keyEq l W7
    clear r6 r7 hB6 hB7 hb B5 B6 h
    go_wp2_with (first
      | ((with_reducible refine at_load 41 ?_); refine wpList_loadAll W7 rfl 41 _ rfl W2.heap.size 41 (keyVal l).toArray hx _ rfl Try.underlying41 rfl (by rw [hv65.out]; exact key65) ?_)
      | ((with_reducible refine at_load 41 ?_); refine wpList_loadAll W7 rfl 41 _ rfl W4.heap.size 41 (keyVal l).toArray hy _ rfl Try.underlying41 rfl (by rw [hv65.out]; exact key65) ?_)
      | ((with_reducible refine at_binT 41 ?_); refine wpList_eql W7 rfl rfl rfl rfl keyGuard he ?_))
    go_ret
    exact ⟨rfl, B7⟩
  · go_wp2
    go_ret
    exact ⟨rfl, B1⟩
end Go.Proofs.Ytnjfghlgknnhmaa
