/-
  Walk: the law ImgSplits.
-/
import Derived.Test.YtnjfghlgknnhmaaImgO
namespace Go.Proofs.Ytnjfghlgknnhmaa
open Go.RowKit

theorem splHd_ok (l : List UInt8) (o : Nat) : (splHd l o).ok := by
  unfold splHd
  split
  · exact hdVal_ok _
  · exact ⟨by show 0 < _; omega, by show 0 < _; omega, by simp [zhd], rfl⟩

set_option maxRecDepth 100000 in
set_option maxHeartbeats 4000000 in
theorem imgSplits_walk (w : World) (A : Option Addr) (n c : Nat) (l : List UInt8) (hR : Rd w w.heap.size 1 A n (bcells l)) (hnc : n ≤ c) (_hc : c ≤ 9223372036854775807) (oi : Int) (wo : (Lit.int .u32 oi).wf = true) :
    Calls Try.prog 9 #[.slice A n c, .int .u32 oi] w fun e w' => e = .returned (.bool true) ∧ Below w.heap.size w w' := by
  have hz := zeroHd
  have h35 := Lib.hid hdz35
  obtain ⟨o, rfl⟩ : ∃ o : Nat, oi = o := Int.eq_ofNat_of_zero_le (by simp [Lit.wf, IntKind.min, IntKind.max, IntKind.bits, IntKind.signed] at wo; omega)
  obtain ⟨V, hV⟩ : ∃ V, V = splHd l o := ⟨_, rfl⟩
  obtain ⟨E, hE⟩ : ∃ E, E = splErr l o := ⟨_, rfl⟩
  obtain ⟨P1, hP1⟩ : ∃ P, P = splA l o := ⟨_, rfl⟩
  obtain ⟨P2, hP2⟩ : ∃ P, P = splB l o := ⟨_, rfl⟩
  obtain ⟨P3, hP3⟩ : ∃ P, P = splC l o := ⟨_, rfl⟩
  have okV : V.ok := by rw [hV]; exact splHd_ok l o
  have hV35 : Hid ((hdCells V).toArray.size = 35) := Lib.hid (by rw [List.size_toArray, hdCells_length V okV.dig])
  have hS1 := fun n6 W h => mSplit_any A n c hnc n6 l o W h
  have hS2 := fun n6 W h => rSplit_any A n c hnc n6 l o W h
  unfold SplRet at hS1 hS2
  rw [← hV, ← hE, ← hP1, ← hP2, ← hP3] at hS1 hS2
  clear hV hE hP1 hP2 hP3
  go_enter Try.func9, Try.ntmps9
  go_wp2_with fail
  refine (awake15 w).mono ?_
  rintro e W1 ⟨rfl, B1⟩
  go_wp2_with fail
  all_goals (try (go_ret; exact ⟨rfl, B1⟩))
  refine (hS1 (by omega) W1 ((hR.below B1).more B1.size)).mono ?_
  rintro e W2 ⟨A1, c1, A2, c2, A3, c3, rfl, r1, r2, r3, hB2⟩
  have B2 := B1.trans (hB2.mono B1.size)
  have hb2 := Blk.new W2 55 (hdCells zhd).toArray
  clear hB2 B1
  go_wp2_with ((with_reducible refine at_store 55 ?_); refine wpList_storeAll _ rfl 55 _ _ rfl W2.heap.size 55 _ (hdCells V).toArray hb2 rfl rfl (by rw [hV35.out, h35.out]) (by rw [hV35.out]; exact inf_hd) (hdCells_one V) ?_; intro W3 hb3 hg3 hs3)
  have hB23 := grown_below ((Below.refl W2.heap.size W2).alloc (Nat.le_refl _) (.cells (hdCells zhd).toArray 55)) hg3 (by simp) (Nat.le_refl _)
  have B3 := B2.trans (hB23.mono B2.size)
  have r1 := (r1.below hB23).more hB23.size
  have r2 := (r2.below hB23).more hB23.size
  have r3 := (r3.below hB23).more hB23.size
  obtain ⟨g3, hg⟩ : ∃ g, g = W2.heap.size := ⟨_, rfl⟩
  rw [← hg] at hb3 ⊢
  clear hb2 hg3 hs3 hB23 B2 hg hS1
  refine (hS2 (by omega) W3 ((hR.below B3).more B3.size)).mono ?_
  rintro e W4 ⟨A4, c4, A5, c5, A6, c6, rfl, r4, r5, r6, hB4⟩
  have B4 := B3.trans (hB4.mono B3.size)
  have r1 := (r1.below hB4).more hB4.size
  have r2 := (r2.below hB4).more hB4.size
  have r3 := (r3.below hB4).more hB4.size
  have hb4 := hb3.below hB4 hb3.lt
  have hz4 := Blk.new W4 55 (hdCells zhd).toArray
  have hlt4 := hb4.lt
  clear B3 hB4 hb3 hS2
  go_wp2_with (first
    | ((with_reducible refine at_store 55 ?_); refine wpList_storeAll _ rfl 55 _ _ rfl W4.heap.size 55 _ (hdCells V).toArray hz4 rfl rfl (by rw [hV35.out, h35.out]) (by rw [hV35.out]; exact inf_hd) (hdCells_one V) ?_; intro W7 hb7 hg7 hs7;
        have hB67 := grown_below ((Below.refl W4.heap.size W4).alloc (Nat.le_refl _) (.cells (hdCells zhd).toArray 55)) hg7 (by simp) (Nat.le_refl _);
        have B7 := B4.trans (hB67.mono B4.size);
        have s1 := run_str W7 27 9 5 A1 P1.length c1 P1 Try.underlying27 Try.underlying5 Try.underlying9 (r1.below hB67);
        have s2 := run_str W7 27 9 5 A2 P2.length c2 P2 Try.underlying27 Try.underlying5 Try.underlying9 (r2.below hB67);
        have s3 := run_str W7 27 9 5 A3 P3.length c3 P3 Try.underlying27 Try.underlying5 Try.underlying9 (r3.below hB67);
        have s4 := run_str W7 27 9 5 A4 P1.length c4 P1 Try.underlying27 Try.underlying5 Try.underlying9 (r4.below hB67);
        have s5 := run_str W7 27 9 5 A5 P2.length c5 P2 Try.underlying27 Try.underlying5 Try.underlying9 (r5.below hB67);
        have s6 := run_str W7 27 9 5 A6 P3.length c6 P3 Try.underlying27 Try.underlying5 Try.underlying9 (r6.below hB67);
        have hb4' := hb4.below hB67 hb4.lt)
    | ((with_reducible refine at_load 55 ?_); refine wpList_loadAllW _ rfl 55 (.tmp 5) rfl g3 55 (hdCells V).toArray hb4' _ rfl Try.underlying55 rfl (by rw [hV35.out]; exact inf_hd) ?_)
    | ((with_reducible refine at_load 55 ?_); refine wpList_loadAllW _ rfl 55 (.tmp 10) rfl W4.heap.size 55 (hdCells V).toArray hb7 _ rfl Try.underlying55 rfl (by rw [hV35.out]; exact inf_hd) ?_)
    | ((with_reducible refine at_binT 55 ?_); refine wpList_eql _ rfl rfl rfl rfl hdGuard (hdEq V okV _) ?_))
  go_ret
  exact ⟨rfl, B7⟩
end Go.Proofs.Ytnjfghlgknnhmaa
