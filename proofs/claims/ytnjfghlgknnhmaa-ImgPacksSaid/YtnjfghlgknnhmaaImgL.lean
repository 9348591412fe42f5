/-
  Walk: the law ImgBack.
-/
import Derived.Test.YtnjfghlgknnhmaaImgK
namespace Go.Proofs.Ytnjfghlgknnhmaa
open Go.RowKit

theorem putHd_len (h : Hd) (ok : h.ok) : (putHd h).length ≤ 64 := by
  unfold putHd
  split
  · rename_i hk; rw [hdBytes_length h ok.dig (nmOk_le hk)]; omega
  · simp
theorem putHd_back (h : Hd) (ok : h.ok) (hk : nmOk h.name = true) : hdVal (putHd h) = h ∧ hdErr (putHd h) = 0 := by
  rw [putHd, if_pos hk, hdVal, hdErr, hdGood_back h ok hk, if_pos rfl, if_pos rfl, hdRaw_back h ok hk]; exact ⟨rfl, rfl⟩
theorem hdVal_back (l : List UInt8) : (hdErr l = 0 ∧ putHd (hdVal l) = l ∧ putHdErr (hdVal l) = 0) ∨ hdErr l = 150 := by
  cases hg : hdGood l with
  | false => right; rw [hdErr, hg]; rfl
  | true =>
    left
    have h := hg
    simp only [hdGood, Bool.and_eq_true, beq_iff_eq] at h
    have e1 : hdVal l = hdRaw l := by rw [hdVal, hg]; rfl
    have e2 : nmOk (hdRaw l).name = true := h.1.2
    refine ⟨by rw [hdErr, hg]; rfl, ?_, ?_⟩
    · rw [e1, putHd, if_pos e2]; exact h.2
    · rw [e1, putHdErr, if_pos e2]

set_option maxRecDepth 100000 in
set_option maxHeartbeats 8000000 in
theorem imgBack_walk (w : World) (h : Hd) (ok : h.ok) (A : Option Addr) (n c : Nat) (l : List UInt8) (hR : Rd w w.heap.size 1 A n (bcells l)) (hnc : n ≤ c) (_hc : c ≤ 9223372036854775807) :
    Calls Try.prog 8 #[.agg (hdCells h).toArray, .slice A n c] w fun e w' => e = .returned (.bool true) ∧ Below w.heap.size w w' := by
  have hz := zeroHd
  have h35 := Lib.hid hdz35
  have hh35 : Hid ((hdCells h).toArray.size = 35) := Lib.hid (by rw [List.size_toArray, hdCells_length h ok.dig])
  obtain ⟨X, hX⟩ : ∃ X, X = putHd h := ⟨_, rfl⟩
  obtain ⟨XE, hXE⟩ : ∃ X, X = putHdErr h := ⟨_, rfl⟩
  obtain ⟨Y, hY⟩ : ∃ V, V = hdVal X := ⟨_, rfl⟩
  obtain ⟨YE, hYE⟩ : ∃ V, V = hdErr X := ⟨_, rfl⟩
  have okY : Y.ok := by rw [hY]; exact hdVal_ok X
  have hY35 : Hid ((hdCells Y).toArray.size = 35) := Lib.hid (by rw [List.size_toArray, hdCells_length Y okY.dig])
  have hcase1 : Hid ((XE = 0 ∧ YE = 0 ∧ Y = h) ∨ XE = 150) := Lib.hid (by
    cases hk : nmOk h.name with
    | false => right; rw [hXE, putHdErr, if_neg (by simp [hk])]
    | true =>
      left
      obtain ⟨e1, e2⟩ := putHd_back h ok hk
      exact ⟨by rw [hXE, putHdErr, if_pos hk], by rw [hYE, hX, e2], by rw [hY, hX, e1]⟩)
  obtain ⟨V, hV⟩ : ∃ V, V = hdVal l := ⟨_, rfl⟩
  obtain ⟨E, hE⟩ : ∃ E, E = hdErr l := ⟨_, rfl⟩
  have okV : V.ok := by rw [hV]; exact hdVal_ok l
  have hV35 : Hid ((hdCells V).toArray.size = 35) := Lib.hid (by rw [List.size_toArray, hdCells_length V okV.dig])
  have hcase2 : Hid ((E = 0 ∧ putHd V = l ∧ putHdErr V = 0) ∨ E = 150) := Lib.hid (by rw [hE, hV]; exact hdVal_back l)
  have HX := Lib.hid hX
  have HXE := Lib.hid hXE
  have HY := Lib.hid hY
  have HYE := Lib.hid hYE
  have HV := Lib.hid hV
  have HE := Lib.hid hE
  have hb := Blk.new w 55 (hdCells h).toArray
  have B0 : Below w.heap.size w (w.alloc (.cells (hdCells h).toArray 55)) := (Below.refl _ _).alloc (Nat.le_refl _) _
  have hnl : h.name.length ≤ 9223372036854775807 := ok.name
  clear hV hE hX hXE hY hYE
  go_enter Try.func8, Try.ntmps8
  go_wp2_with fail
  generalize w.alloc (.cells (hdCells h).toArray 55) = W0 at *
  refine (awake15 W0).mono ?_
  rintro e W1 ⟨rfl, hB1⟩
  have hb := hb.below hB1 hb.lt
  have B1 := B0.trans (hB1.mono B0.size)
  have cn : W1.cell? ⟨w.heap.size, 2, none⟩ = some (.string ⟨h.name.toArray⟩) := (hb.cell 2).trans rfl
  clear B0 hB1
  go_wp2_with ((with_reducible refine at_load 55 ?_); refine wpList_loadAll _ rfl 55 _ rfl w.heap.size 55 (hdCells h).toArray hb _ rfl Try.underlying55 rfl (by rw [hh35.out]; exact inf_hd) ?_)
  all_goals (try (go_ret; exact ⟨rfl, B1⟩))
  refine (mPutH_any h ok W1).mono ?_
  rintro e W2 ⟨A2, c2, rfl, h2, r2, hB2⟩
  rw [← HX.out] at h2 r2 ⊢
  rw [← HXE.out]
  have hb2 := hb.below hB2 hb.lt
  have B2 := B1.trans (hB2.mono B1.size)
  clear hb cn hB2
  go_wp2_with fail
  refine (mOf_any A2 X.length c2 h2 X W2 r2).mono ?_
  rintro e W3 ⟨rfl, hB3⟩
  rw [← HY.out, ← HYE.out]
  have B3 := B2.trans (hB3.mono B2.size)
  have hb3 := hb2.below hB3 hb2.lt
  have hz3 := Blk.new W3 55 (hdCells zhd).toArray
  clear hb2 hB3 r2 B2
  have hmid : ∀ W4 g4, Blk W4 g4 55 (hdCells Y).toArray → Blk W4 w.heap.size 55 (hdCells h).toArray → Below w.heap.size w W4 → True := fun _ _ _ _ _ => trivial
  clear hmid
  rcases hcase1.out with ⟨rfl, rfl, rfl⟩ | rfl
  all_goals
    clear hcase1
    go_wp2_with (first
      | ((with_reducible refine at_store 55 ?_); refine wpList_storeAll _ rfl 55 _ _ rfl W3.heap.size 55 _ (hdCells Y).toArray hz3 rfl rfl (by rw [hY35.out, h35.out]) (by rw [hY35.out]; exact inf_hd) (hdCells_one Y) ?_; intro W4 hb4 hg4 hs4;
          have hB34 := grown_below ((Below.refl W3.heap.size W3).alloc (Nat.le_refl _) (.cells (hdCells zhd).toArray 55)) hg4 (by simp) (Nat.le_refl _);
          have B4 := B3.trans (hB34.mono B3.size); have hb3' := hb3.below hB34 hb3.lt)
      | ((with_reducible refine at_load 55 ?_); refine wpList_loadAllW _ rfl 55 (.tmp 7) rfl W3.heap.size 55 (hdCells Y).toArray hb4 _ rfl Try.underlying55 rfl (by rw [hY35.out]; exact inf_hd) ?_)
      | ((with_reducible refine at_load 55 ?_); refine wpList_loadAllW _ rfl 55 (.tmp 2) rfl w.heap.size 55 (hdCells Y).toArray hb3' _ rfl Try.underlying55 rfl (by rw [hY35.out]; exact inf_hd) ?_)
      | ((with_reducible refine at_binT 55 ?_); refine wpList_neq _ rfl rfl rfl rfl hdGuard (hdNe Y okY _) ?_))
    clear hb4 hb3' hb3 hg4 hs4 hB34 hz3 B3
    refine (mOf_any A n c hnc l W4 ((hR.below B4).more B4.size)).mono ?_
    rintro e W6 ⟨rfl, hB6⟩
    rw [← HV.out, ← HE.out]
    have B6 := B4.trans (hB6.mono B4.size)
    have hz6 := Blk.new W6 55 (hdCells zhd).toArray
    clear B4 hB6
    go_wp2_with (first
      | ((with_reducible refine at_store 55 ?_); refine wpList_storeAll _ rfl 55 _ _ rfl W6.heap.size 55 _ (hdCells V).toArray hz6 rfl rfl (by rw [hV35.out, h35.out]) (by rw [hV35.out]; exact inf_hd) (hdCells_one V) ?_; intro W7 hb7 hg7 hs7)
      | ((with_reducible refine at_load 55 ?_); refine wpList_loadAll _ rfl 55 (.tmp 9) rfl W6.heap.size 55 (hdCells V).toArray hb7 _ rfl Try.underlying55 rfl (by rw [hV35.out]; exact inf_hd) ?_))
    have hB67 := grown_below ((Below.refl W6.heap.size W6).alloc (Nat.le_refl _) (.cells (hdCells zhd).toArray 55)) hg7 (by simp) (Nat.le_refl _)
    have B7 := B6.trans (hB67.mono B6.size)
    clear hz6 hg7 hs7 hB67 B6
    refine (mPutH_any V okV W7).mono ?_
    rintro e W8 ⟨A8, c8, rfl, h8, r8, hB8⟩
    have B8 := B7.trans (hB8.mono B7.size)
    clear hb7 B7 hB8
    rcases hcase2.out with ⟨rfl, e8, e9⟩ | rfl
    · rw [e8] at r8 ⊢
      rw [e9]
      have s2 := run_str W8 27 9 5 A8 l.length c8 l Try.underlying27 Try.underlying5 Try.underlying9 r8
      have s3 := run_str W8 27 9 5 A n c l Try.underlying27 Try.underlying5 Try.underlying9 (hR.below B8)
      clear hcase2 r8 e8 e9
      go_wp2
      go_ret
      exact ⟨rfl, B8⟩
    · clear hcase2
      go_wp2
      go_ret
      exact ⟨rfl, B8⟩
end Go.Proofs.Ytnjfghlgknnhmaa
