/-
  Walks: chapter 15's example; the laws ImgHeaders, ImgBack.
-/
import Derived.Test.YtnjfghlgknnhmaaImgJ
namespace Go.Proofs.Ytnjfghlgknnhmaa
open Go.RowKit

def hdA : Hd := ⟨1, 0, [97], List.replicate 32 0⟩
theorem hdA_ok : hdA.ok := ⟨by decide, by decide, by decide, rfl⟩
theorem run_hdA (w : World) : (Instr.build 55 #[(0, .int .u32 1), (2, .string ⟨#[97]⟩)]).run Try.prog w = .ok (.agg (hdCells hdA).toArray) w := by kernel_rfl
theorem putA_len : (putHd hdA).length = 64 := by decide
theorem putA_err : putHdErr hdA = 0 := by decide
theorem elI : Elem Try.prog 27 5 (.int .u8 0) 1 1 := Elem.of (by kernel_rfl) (by kernel_rfl) rfl (by omega)

set_option maxRecDepth 100000 in
set_option maxHeartbeats 2000000 in
theorem awake15 (w : World) : Calls Try.prog 28 #[] w fun e w' => e = .returned (.bool true) ∧ Below w.heap.size w w' := by
  have hz := zeroHd
  have h35 := Lib.hid hdz35
  go_enter Try.func28, Try.ntmps28
  go_wp2_with (at_make; refine wpList_makeN w elI rfl _ _ rfl .i64 .i64 _ _ 63 63 rfl rfl rfl rfl (by omega) (by omega) (by omega) ?_; intro w1 hb1 hs1 hB1)
  have hmc : madeCells (Value.int .u8 0).cells (63 * 1) = (bcells (List.replicate 63 0)).toArray := by kernel_rfl
  rw [hmc] at hb1
  have hR1 : Rd w1 w1.heap.size 1 (some ⟨w.heap.size, 0, none⟩) 63 (bcells (List.replicate 63 0)) := by
    have := hb1.rd (size := 1) (n := 63) (by simp [bcells_length])
    simpa using this
  have hgf : hdGood (List.replicate 63 0) = false := by decide
  have hval : hdVal (List.replicate 63 0) = zhd := by rw [hdVal, hgf]; rfl
  have herr : hdErr (List.replicate 63 0) = 150 := by rw [hdErr, hgf]; rfl
  have hof := mOf_any (some ⟨w.heap.size, 0, none⟩) 63 63 (Nat.le_refl _) (List.replicate 63 0) w1 hR1
  rw [hval, herr] at hof
  clear hval herr hR1 hmc hb1 hgf
  refine hof.mono ?_
  rintro e w2 ⟨rfl, hB2⟩
  have B2 := hB1.trans (hB2.mono hB1.size)
  have hb2 := Blk.new w2 55 (hdCells zhd).toArray
  clear hof hB1 hB2 hs1
  go_wp2_with (first
    | ((with_reducible refine at_store 55 ?_); refine wpList_storeAll _ rfl 55 _ _ rfl w2.heap.size 55 _ (hdCells zhd).toArray hb2 rfl rfl rfl (by rw [h35.out]; exact inf_hd) (hdCells_one zhd) ?_; intro w3 hb3 hg3 hs3)
    | ((with_reducible refine at_build 55 ?_); refine wpList_buildV _ rfl #[(0, .int .u32 1), (2, .string ⟨#[97]⟩)] rfl (by simp [Act.eval]) (run_hdA _) ?_))
  have B3 := grown_below (B2.alloc B2.size _) hg3 (by simp; have := B2.size; omega) B2.size
  refine (mPutH_any hdA hdA_ok w3).mono ?_
  rintro e w4 ⟨A, c, rfl, _, hR, hB4⟩
  rw [putA_err]
  have B4 := B3.trans (hB4.mono B3.size)
  rw [putA_len] at hR ⊢
  obtain ⟨b, off, rfl, _, hrng⟩ := hR.range (by omega)
  have x0 : w4.cell? ⟨b, off, none⟩ = some (.int .u8 66) := hrng 0 _ (by kernel_rfl)
  have x16 : w4.cell? ⟨b, off + 16, none⟩ = some (.int .u8 97) := hrng 16 _ (by kernel_rfl)
  clear hR hrng hB4 B3 hb3 hg3 hs3 hb2 B2
  go_wp2
  go_ret
  exact ⟨rfl, B4⟩

set_option maxRecDepth 100000 in
set_option maxHeartbeats 4000000 in
theorem imgHeaders_walk (w : World) (h : Hd) (ok : h.ok) (A : Option Addr) (n c : Nat) (l : List UInt8) (hR : Rd w w.heap.size 1 A n (bcells l)) (hnc : n ≤ c) (_hc : c ≤ 9223372036854775807) :
    Calls Try.prog 7 #[.agg (hdCells h).toArray, .slice A n c] w fun e w' => e = .returned (.bool true) ∧ Below w.heap.size w w' := by
  have hz := zeroHd
  have h35 := Lib.hid hdz35
  have hh35 : Hid ((hdCells h).toArray.size = 35) := Lib.hid (by rw [List.size_toArray, hdCells_length h ok.dig])
  obtain ⟨V, hV⟩ : ∃ V, V = hdVal l := ⟨_, rfl⟩
  obtain ⟨E, hE⟩ : ∃ E, E = hdErr l := ⟨_, rfl⟩
  have okV : V.ok := by rw [hV]; exact hdVal_ok l
  have hV35 : Hid ((hdCells V).toArray.size = 35) := Lib.hid (by rw [List.size_toArray, hdCells_length V okV.dig])
  have HV := Lib.hid hV
  have HE := Lib.hid hE
  have hb := Blk.new w 55 (hdCells h).toArray
  have B0 : Below w.heap.size w (w.alloc (.cells (hdCells h).toArray 55)) := (Below.refl _ _).alloc (Nat.le_refl _) _
  have hnl : h.name.length ≤ 9223372036854775807 := ok.name
  clear hV hE
  go_enter Try.func7, Try.ntmps7
  go_wp2_with fail
  generalize w.alloc (.cells (hdCells h).toArray 55) = W0 at *
  refine (awake15 W0).mono ?_
  rintro e W1 ⟨rfl, hB1⟩
  have hb := hb.below hB1 hb.lt
  have B1 := B0.trans (hB1.mono B0.size)
  have cn : W1.cell? ⟨w.heap.size, 2, none⟩ = some (.string ⟨h.name.toArray⟩) := (hb.cell 2).trans rfl
  clear B0 hB1
  go_wp2_with ((with_reducible refine at_load 55 ?_); refine wpList_loadAll _ rfl 55 _ rfl w.heap.size 55 (hdCells h).toArray hb _ rfl Try.underlying55 rfl (by rw [hh35.out]; exact inf_hd) ?_)
  all_goals (try (go_ret; exact ⟨rfl, B1⟩))
  have k200 : n ≤ 200 := by omega
  refine (mPutH_any h ok W1).mono ?_
  rintro e W2 ⟨A2, c2, rfl, _, r2, hB2⟩
  have hb2 := hb.below hB2 hb.lt
  have B2 := B1.trans (hB2.mono B1.size)
  clear hb cn hB2
  go_wp2_with ((with_reducible refine at_load 55 ?_); refine wpList_loadAll _ rfl 55 _ rfl w.heap.size 55 (hdCells h).toArray hb2 _ rfl Try.underlying55 rfl (by rw [hh35.out]; exact inf_hd) ?_)
  refine (rPutHeader_any h ok W2).mono ?_
  rintro e W3 ⟨A3, c3, rfl, _, r3, hB3⟩
  have B3 := B2.trans (hB3.mono B2.size)
  have r2 := (r2.below hB3).more hB3.size
  generalize putHd h = X at *
  generalize putHdErr h = XE at *
  clear hb2 hB3
  go_wp2_with fail
  refine (mOf_any A n c hnc l W3 ((hR.below B3).more B3.size)).mono ?_
  rintro e W4 ⟨rfl, hB4⟩
  rw [← HV.out, ← HE.out]
  have B4 := B3.trans (hB4.mono B3.size)
  have r2 := (r2.below hB4).more hB4.size
  have r3 := (r3.below hB4).more hB4.size
  have hz4 := Blk.new W4 55 (hdCells zhd).toArray
  clear B3 hB4
  go_wp2_with ((with_reducible refine at_store 55 ?_); refine wpList_storeAll _ rfl 55 _ _ rfl W4.heap.size 55 _ (hdCells V).toArray hz4 rfl rfl (by rw [hV35.out, h35.out]) (by rw [hV35.out]; exact inf_hd) (hdCells_one V) ?_; intro W5 hb5 hg5 hs5)
  have hB45 := grown_below ((Below.refl W4.heap.size W4).alloc (Nat.le_refl _) (.cells (hdCells zhd).toArray 55)) hg5 (by simp) (Nat.le_refl _)
  have B5 := B4.trans (hB45.mono B4.size)
  have r2 := (r2.below hB45).more hB45.size
  have r3 := (r3.below hB45).more hB45.size
  obtain ⟨g5, hg⟩ : ∃ g, g = W4.heap.size := ⟨_, rfl⟩
  rw [← hg] at hb5 ⊢
  clear hz4 hg5 hs5 hB45 B4 hg
  refine (rHeaderOf_any A n c hnc l W5 ((hR.below B5).more B5.size)).mono ?_
  rintro e W6 ⟨rfl, hB6⟩
  rw [← HV.out, ← HE.out]
  have B6 := B5.trans (hB6.mono B5.size)
  have r2 := (r2.below hB6).more hB6.size
  have r3 := (r3.below hB6).more hB6.size
  have hb6 := hb5.below hB6 hb5.lt
  have hz6 := Blk.new W6 55 (hdCells zhd).toArray
  have hlt6 := hb6.lt
  clear B5 hB6 hb5
  go_wp2_with (first
    | ((with_reducible refine at_store 55 ?_); refine wpList_storeAll _ rfl 55 _ _ rfl W6.heap.size 55 _ (hdCells V).toArray hz6 rfl rfl (by rw [hV35.out, h35.out]) (by rw [hV35.out]; exact inf_hd) (hdCells_one V) ?_; intro W7 hb7 hg7 hs7;
        have hB67 := grown_below ((Below.refl W6.heap.size W6).alloc (Nat.le_refl _) (.cells (hdCells zhd).toArray 55)) hg7 (by simp) (Nat.le_refl _);
        have B7 := B6.trans (hB67.mono B6.size); have r2 := (r2.below hB67).more hB67.size; have r3 := (r3.below hB67).more hB67.size;
        have s2 := run_str W7 27 9 5 A2 X.length c2 X Try.underlying27 Try.underlying5 Try.underlying9 r2;
        have s3 := run_str W7 27 9 5 A3 X.length c3 X Try.underlying27 Try.underlying5 Try.underlying9 r3;
        have hb6' := hb6.below hB67 hb6.lt)
    | ((with_reducible refine at_load 55 ?_); refine wpList_loadAllW _ rfl 55 (.tmp 9) rfl g5 55 (hdCells V).toArray hb6' _ rfl Try.underlying55 rfl (by rw [hV35.out]; exact inf_hd) ?_)
    | ((with_reducible refine at_load 55 ?_); refine wpList_loadAllW _ rfl 55 (.tmp 11) rfl W6.heap.size 55 (hdCells V).toArray hb7 _ rfl Try.underlying55 rfl (by rw [hV35.out]; exact inf_hd) ?_)
    | ((with_reducible refine at_binT 55 ?_); refine wpList_eql _ rfl rfl rfl rfl hdGuard (hdEq V okV _) ?_))
  go_ret
  exact ⟨rfl, B7⟩
end Go.Proofs.Ytnjfghlgknnhmaa
