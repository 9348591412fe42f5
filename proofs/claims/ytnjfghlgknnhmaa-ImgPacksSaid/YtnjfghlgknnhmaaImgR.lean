/-
  Walk: the law ImgPacks.
-/
import Derived.Test.YtnjfghlgknnhmaaImgQ
namespace Go.Proofs.Ytnjfghlgknnhmaa
open Go.RowKit

theorem bl_app (a b c : List UInt8) : ((⟨a.toArray⟩ : ByteArray) ++ ⟨b.toArray⟩ ++ ⟨c.toArray⟩).toList = a ++ (b ++ c) := by
  have e : ((⟨a.toArray⟩ : ByteArray) ++ ⟨b.toArray⟩ ++ ⟨c.toArray⟩) = ⟨(a ++ (b ++ c)).toArray⟩ := by
    apply ByteArray.ext
    simp
  rw [e, ByteArray.toList_mk]

set_option maxRecDepth 100000 in
set_option maxHeartbeats 8000000 in
theorem imgPacks_walk (w : World) (h : Hd) (ok : h.ok) (A : Option Addr) (n c : Nat) (sig : List UInt8) (r1 : Rd w w.heap.size 1 A n (bcells sig)) (_hnc : n ≤ c) (_hc : c ≤ 9223372036854775807)
    (A2 : Option Addr) (n2 c2 : Nat) (pay : List UInt8) (r2 : Rd w w.heap.size 1 A2 n2 (bcells pay)) (_hnc2 : n2 ≤ c2) (_hc2 : c2 ≤ 9223372036854775807) (oi : Int) (wo : (Lit.int .u32 oi).wf = true) :
    Calls Try.prog 10 #[.agg (hdCells h).toArray, .slice A n c, .slice A2 n2 c2, .int .u32 oi] w fun e w' => e = .returned (.bool true) ∧ Below w.heap.size w w' := by
  have hz := zeroHd
  have h35 := Lib.hid hdz35
  obtain ⟨o, rfl⟩ : ∃ o : Nat, oi = o := Int.eq_ofNat_of_zero_le (by simp [Lit.wf, IntKind.min, IntKind.max, IntKind.bits, IntKind.signed] at wo; omega)
  have hh35 : Hid ((hdCells h).toArray.size = 35) := Lib.hid (by rw [List.size_toArray, hdCells_length h ok.dig])
  have hl2 : n2 = pay.length := by have := r2.len; rw [bcells_length] at this; omega
  have hl1 : n = sig.length := by have := r1.len; rw [bcells_length] at this; omega
  have hvs : h.size < 4294967296 := ok.size
  have hb := Blk.new w 55 (hdCells h).toArray
  have B0 : Below w.heap.size w (w.alloc (.cells (hdCells h).toArray 55)) := (Below.refl _ _).alloc (Nat.le_refl _) _
  have hnl : h.name.length ≤ 9223372036854775807 := ok.name
  have HL1 := Lib.hid hl1
  have HL2 := Lib.hid hl2
  clear hl1 hl2
  go_enter Try.func10, Try.ntmps10
  go_wp2_with fail
  generalize w.alloc (.cells (hdCells h).toArray 55) = W0 at *
  refine (awake15 W0).mono ?_
  rintro e W1 ⟨rfl, hB1⟩
  have hb := hb.below hB1 hb.lt
  have B1 := B0.trans (hB1.mono B0.size)
  have cn : W1.cell? ⟨w.heap.size, 2, none⟩ = some (.string ⟨h.name.toArray⟩) := (hb.cell 2).trans rfl
  clear B0 hB1
  go_wp2_with ((with_reducible refine at_load 55 ?_); refine wpList_loadAll _ rfl 55 _ rfl w.heap.size 55 (hdCells h).toArray hb _ rfl Try.underlying55 rfl (by rw [hh35.out]; exact inf_hd) ?_)
  all_goals (try (go_ret; exact ⟨rfl, B1⟩))
  have hw1 : IntKind.u64.wrap (n2 : Int) = (n2 : Int) := IntWalk.u64_in _ (by omega)
  have hw2 : IntKind.u64.wrap (h.size : Int) = (h.size : Int) := IntWalk.u64_in _ (by omega)
  refine (mPack_any h ok A n c sig A2 n2 c2 pay (by omega) (by omega) W1 ((r1.below B1).more B1.size) ((r2.below B1).more B1.size)).mono ?_
  rintro e W2 ⟨A3, c3, rfl, h3, r3, hB2⟩
  obtain ⟨X, hX⟩ : ∃ X, X = packV h sig pay := ⟨_, rfl⟩
  obtain ⟨XE, hXE⟩ : ∃ X, X = packErr h pay := ⟨_, rfl⟩
  rw [← hX] at r3 h3 ⊢
  rw [← hXE]
  have HX := Lib.hid hX
  have HXE := Lib.hid hXE
  clear hX hXE
  have hb2 := hb.below hB2 hb.lt
  have B2 := B1.trans (hB2.mono B1.size)
  clear hb cn hB2 B1
  go_wp2_with ((with_reducible refine at_load 55 ?_); refine wpList_loadAll _ rfl 55 _ rfl w.heap.size 55 (hdCells h).toArray hb2 _ rfl Try.underlying55 rfl (by rw [hh35.out]; exact inf_hd) ?_)
  refine (rPutHeader_any h ok W2).mono ?_
  rintro e W3 ⟨A4, c4, rfl, h4, r4, hB3⟩
  have B3 := B2.trans (hB3.mono B2.size)
  have hb3 := hb2.below hB3 hb2.lt
  have r3 := (r3.below hB3).more hB3.size
  have c1 : W3.cell? ⟨w.heap.size, 1, none⟩ = some (.int .u32 (h.size : Int)) := (hb3.cell 1).trans rfl
  clear hb2 hB3 B2
  cases hk : nmOk h.name with
  | false =>
    have hx : putHdErr h = 150 := by rw [putHdErr, if_neg (by simp [hk])]
    have hp : packOk h pay = false := by simp [packOk, hk]
    have e1 : XE = 150 := by rw [HXE.out, packErr, hp]; rfl
    have e2 : X = [] := by rw [HX.out, packV, hp]; rfl
    clear HX HXE
    subst e1 e2
    rw [hx]
    clear hx hp hk
    go_wp2
    go_ret
    exact ⟨rfl, B3⟩
  | true =>
    have hx : putHdErr h = 0 := by rw [putHdErr, if_pos hk]
    have hv : putHd h = hdBytes h := by rw [putHd, if_pos hk]
    rw [hx, hv]
    rw [hv] at r4 h4
    clear hx hv
    by_cases hsz : h.size = n2
    · have hp : packOk h pay = true := by have := HL2.out; simp [packOk, hk, ← this, hsz]
      have e1 : XE = 0 := by rw [HXE.out, packErr, hp]; rfl
      have e2 : X = hdBytes h ++ (sig ++ pay) := by rw [HX.out, packV, hp]; rfl
      have hpg := pack_good h ok hk sig pay (by rw [← HL2.out]; exact hsz) o
      have hpp := pack_parts h ok hk sig pay o
      rw [← e2] at hpg hpp
      have hXl : X.length = 64 + (n + n2) := by rw [e2, List.length_append, List.length_append, hdBytes_length h ok.dig (nmOk_le hk), HL1.out, HL2.out]
      obtain ⟨Y, hY⟩ : ∃ Y, Y = hdBytes h := ⟨_, rfl⟩
      rw [← hY] at r4 h4 e2 ⊢
      have heq : (((h.size : Nat) : Int) != (n2 : Int)) = false := by simp; omega
      have s1 := run_str W3 27 9 5 A3 X.length c3 X Try.underlying27 Try.underlying5 Try.underlying9 r3
      have s2 := run_str W3 27 9 5 A4 Y.length c4 Y Try.underlying27 Try.underlying5 Try.underlying9 r4
      have s3 := run_str W3 27 9 5 A n c sig Try.underlying27 Try.underlying5 Try.underlying9 (r1.below B3)
      have s4 := run_str W3 27 9 5 A2 n2 c2 pay Try.underlying27 Try.underlying5 Try.underlying9 (r2.below B3)
      have hYl : Y.length = 64 := by rw [hY]; exact hdBytes_length h ok.dig (nmOk_le hk)
      have hl3 : ¬ 9223372036854775807 < Y.length + sig.length := by rw [hYl, ← HL1.out]; omega
      have hl4 : ¬ 9223372036854775807 < Y.length + sig.length + pay.length := by rw [hYl, ← HL1.out, ← HL2.out]; omega
      have hcmp : (!(X == ((⟨Y.toArray⟩ : ByteArray) ++ ⟨sig.toArray⟩ ++ ⟨pay.toArray⟩).toList)) = false := by rw [bl_app, e2]; simp
      have E2 := Lib.hid e2
      have HXL := Lib.hid hXl
      have HPG := Lib.hid hpg
      have HPP := Lib.hid hpp
      have HN := Lib.hid hk
      clear HX HXE
      subst e1
      clear hk e2 hXl hpg hpp hp hY hYl
      go_wp2_with fail
      obtain ⟨V, hV⟩ : ∃ V, V = splHd X o := ⟨_, rfl⟩
      obtain ⟨E, hE⟩ : ∃ E, E = splErr X o := ⟨_, rfl⟩
      obtain ⟨P1, hP1⟩ : ∃ P, P = splA X o := ⟨_, rfl⟩
      obtain ⟨P2, hP2⟩ : ∃ P, P = splB X o := ⟨_, rfl⟩
      obtain ⟨P3, hP3⟩ : ∃ P, P = splC X o := ⟨_, rfl⟩
      have okV : V.ok := by rw [hV]; exact splHd_ok X o
      have hV35 : Hid ((hdCells V).toArray.size = 35) := Lib.hid (by rw [List.size_toArray, hdCells_length V okV.dig])
      have hS1 := mSplit_any A3 X.length c3 h3 (by rw [HXL.out]; omega) X o W3 r3
      unfold SplRet at hS1
      rw [← hV, ← hE, ← hP1, ← hP2, ← hP3] at hS1
      have hcase : Hid ((isKind o = true ∧ n = sigSize o ∧ V = h ∧ P2 = sig ∧ P3 = pay ∧ E = 0) ∨ ((isKind o = false ∨ n ≠ sigSize o) ∧ E ≠ 0)) := Lib.hid (by
        cases hko : isKind o with
        | false =>
          right
          refine ⟨.inl rfl, ?_⟩
          have : splGood X o = false := by rw [HPG.out, hko]; rfl
          rw [hE, splErr, this, hko]; simp
        | true =>
          by_cases hns : n = sigSize o
          · left
            have hn2 : sig.length = sigSize o := by rw [← HL1.out]; exact hns
            have hgd : splGood X o = true := by rw [HPG.out, hko, decide_eq_true hn2]; rfl
            obtain ⟨q1, q2, q3, q4⟩ := HPP.out hgd hn2
            exact ⟨rfl, hns, by rw [hV, q1], by rw [hP2, q2], by rw [hP3, q3], by rw [hE, q4]⟩
          · right
            refine ⟨.inr hns, ?_⟩
            have hn2 : ¬ sig.length = sigSize o := by rw [← HL1.out]; exact hns
            have : splGood X o = false := by rw [HPG.out, hko, decide_eq_false hn2]; rfl
            rw [hE, splErr, this, hko]; simp)
      clear hV hE hP1 hP2 hP3 HPP HPG HXL E2 hcmp hl3 hl4 s1 s2 s3 s4 r4 h4 heq c1
      refine hS1.mono ?_
      rintro e W4 ⟨A5, c5, A6, c6, A7, c7, rfl, r5, r6, r7, hB4⟩
      have B4 := B3.trans (hB4.mono B3.size)
      have hb4 := hb3.below hB4 hb3.lt
      have hz4 := Blk.new W4 55 (hdCells zhd).toArray
      have hlt4 := hb4.lt
      clear B3 hB4 hb3 hS1 r3 r5
      have hkd : isKind o = true ∨ isKind o = false := by cases isKind o <;> simp
      rcases hcase.out with ⟨hk1, hn1, rfl, rfl, rfl, rfl⟩ | ⟨hn1, hE0⟩
      · clear hcase
        have ho : o = 1 ∨ o = 2 ∨ o = 3 := by simpa [isKind, or_assoc] using hk1
        rcases ho with rfl | rfl | rfl
        · have hn3 : ((n : Int) != 2500) = false := by have : n = 2500 := hn1; simp; omega
          clear hk1 hn1 hkd
          go_wp2_with (first
          | ((with_reducible refine at_store 55 ?_); refine wpList_storeAll _ rfl 55 _ _ rfl W4.heap.size 55 _ (hdCells V).toArray hz4 rfl rfl (by rw [hV35.out, h35.out]) (by rw [hV35.out]; exact inf_hd) (hdCells_one V) ?_; intro W7 hb7 hg7 hs7; have hB67 := grown_below ((Below.refl W4.heap.size W4).alloc (Nat.le_refl _) (.cells (hdCells zhd).toArray 55)) hg7 (by simp) (Nat.le_refl _); have B7 := B4.trans (hB67.mono B4.size); have hb4' := hb4.below hB67 hb4.lt; have s2 := run_str W7 27 9 5 A6 P2.length c6 P2 Try.underlying27 Try.underlying5 Try.underlying9 (r6.below hB67); have s3 := run_str W7 27 9 5 A7 P3.length c7 P3 Try.underlying27 Try.underlying5 Try.underlying9 (r7.below hB67); have s4 := run_str W7 27 9 5 A n c P2 Try.underlying27 Try.underlying5 Try.underlying9 (r1.below B7); have s5 := run_str W7 27 9 5 A2 n2 c2 P3 Try.underlying27 Try.underlying5 Try.underlying9 (r2.below B7))
          | ((with_reducible refine at_load 55 ?_); refine wpList_loadAllW _ rfl 55 (.tmp 13) rfl W4.heap.size 55 (hdCells V).toArray hb7 _ rfl Try.underlying55 rfl (by rw [hV35.out]; exact inf_hd) ?_)
          | ((with_reducible refine at_load 55 ?_); refine wpList_loadAllW _ rfl 55 (.tmp 4) rfl w.heap.size 55 (hdCells V).toArray hb4' _ rfl Try.underlying55 rfl (by rw [hV35.out]; exact inf_hd) ?_)
          | ((with_reducible refine at_binT 55 ?_); refine wpList_eql _ rfl rfl rfl rfl hdGuard (hdEq V okV _) ?_))
          go_ret
          exact ⟨rfl, B7⟩
        · have hn3 : ((n : Int) != 2692) = false := by have : n = 2692 := hn1; simp; omega
          clear hk1 hn1 hkd
          go_wp2_with (first
          | ((with_reducible refine at_store 55 ?_); refine wpList_storeAll _ rfl 55 _ _ rfl W4.heap.size 55 _ (hdCells V).toArray hz4 rfl rfl (by rw [hV35.out, h35.out]) (by rw [hV35.out]; exact inf_hd) (hdCells_one V) ?_; intro W7 hb7 hg7 hs7; have hB67 := grown_below ((Below.refl W4.heap.size W4).alloc (Nat.le_refl _) (.cells (hdCells zhd).toArray 55)) hg7 (by simp) (Nat.le_refl _); have B7 := B4.trans (hB67.mono B4.size); have hb4' := hb4.below hB67 hb4.lt; have s2 := run_str W7 27 9 5 A6 P2.length c6 P2 Try.underlying27 Try.underlying5 Try.underlying9 (r6.below hB67); have s3 := run_str W7 27 9 5 A7 P3.length c7 P3 Try.underlying27 Try.underlying5 Try.underlying9 (r7.below hB67); have s4 := run_str W7 27 9 5 A n c P2 Try.underlying27 Try.underlying5 Try.underlying9 (r1.below B7); have s5 := run_str W7 27 9 5 A2 n2 c2 P3 Try.underlying27 Try.underlying5 Try.underlying9 (r2.below B7))
          | ((with_reducible refine at_load 55 ?_); refine wpList_loadAllW _ rfl 55 (.tmp 13) rfl W4.heap.size 55 (hdCells V).toArray hb7 _ rfl Try.underlying55 rfl (by rw [hV35.out]; exact inf_hd) ?_)
          | ((with_reducible refine at_load 55 ?_); refine wpList_loadAllW _ rfl 55 (.tmp 4) rfl w.heap.size 55 (hdCells V).toArray hb4' _ rfl Try.underlying55 rfl (by rw [hV35.out]; exact inf_hd) ?_)
          | ((with_reducible refine at_binT 55 ?_); refine wpList_eql _ rfl rfl rfl rfl hdGuard (hdEq V okV _) ?_))
          go_ret
          exact ⟨rfl, B7⟩
        · have hn3 : ((n : Int) != 2820) = false := by have : n = 2820 := hn1; simp; omega
          clear hk1 hn1 hkd
          go_wp2_with (first
          | ((with_reducible refine at_store 55 ?_); refine wpList_storeAll _ rfl 55 _ _ rfl W4.heap.size 55 _ (hdCells V).toArray hz4 rfl rfl (by rw [hV35.out, h35.out]) (by rw [hV35.out]; exact inf_hd) (hdCells_one V) ?_; intro W7 hb7 hg7 hs7; have hB67 := grown_below ((Below.refl W4.heap.size W4).alloc (Nat.le_refl _) (.cells (hdCells zhd).toArray 55)) hg7 (by simp) (Nat.le_refl _); have B7 := B4.trans (hB67.mono B4.size); have hb4' := hb4.below hB67 hb4.lt; have s2 := run_str W7 27 9 5 A6 P2.length c6 P2 Try.underlying27 Try.underlying5 Try.underlying9 (r6.below hB67); have s3 := run_str W7 27 9 5 A7 P3.length c7 P3 Try.underlying27 Try.underlying5 Try.underlying9 (r7.below hB67); have s4 := run_str W7 27 9 5 A n c P2 Try.underlying27 Try.underlying5 Try.underlying9 (r1.below B7); have s5 := run_str W7 27 9 5 A2 n2 c2 P3 Try.underlying27 Try.underlying5 Try.underlying9 (r2.below B7))
          | ((with_reducible refine at_load 55 ?_); refine wpList_loadAllW _ rfl 55 (.tmp 13) rfl W4.heap.size 55 (hdCells V).toArray hb7 _ rfl Try.underlying55 rfl (by rw [hV35.out]; exact inf_hd) ?_)
          | ((with_reducible refine at_load 55 ?_); refine wpList_loadAllW _ rfl 55 (.tmp 4) rfl w.heap.size 55 (hdCells V).toArray hb4' _ rfl Try.underlying55 rfl (by rw [hV35.out]; exact inf_hd) ?_)
          | ((with_reducible refine at_binT 55 ?_); refine wpList_eql _ rfl rfl rfl rfl hdGuard (hdEq V okV _) ?_))
          go_ret
          exact ⟨rfl, B7⟩
      · have hE1 : (E != 0) = true := by simpa using hE0
        clear hcase hE0
        rcases hkd with hk1 | hk1
        · have hn2 : n ≠ sigSize o := by
            rcases hn1 with h1 | h1
            · rw [hk1] at h1; cases h1
            · exact h1
          have ho : o = 1 ∨ o = 2 ∨ o = 3 := by simpa [isKind, or_assoc] using hk1
          rcases ho with rfl | rfl | rfl
          · have hn3 : ((n : Int) != 2500) = true := by have : n ≠ 2500 := hn2; simp; omega
            clear hk1 hn1 hn2
            go_wp2_with ((with_reducible refine at_store 55 ?_); refine wpList_storeAll _ rfl 55 _ _ rfl W4.heap.size 55 _ (hdCells V).toArray hz4 rfl rfl (by rw [hV35.out, h35.out]) (by rw [hV35.out]; exact inf_hd) (hdCells_one V) ?_; intro W7 hb7 hg7 hs7; have hB67 := grown_below ((Below.refl W4.heap.size W4).alloc (Nat.le_refl _) (.cells (hdCells zhd).toArray 55)) hg7 (by simp) (Nat.le_refl _); have B7 := B4.trans (hB67.mono B4.size))
            go_ret
            exact ⟨rfl, B7⟩
          · have hn3 : ((n : Int) != 2692) = true := by have : n ≠ 2692 := hn2; simp; omega
            clear hk1 hn1 hn2
            go_wp2_with ((with_reducible refine at_store 55 ?_); refine wpList_storeAll _ rfl 55 _ _ rfl W4.heap.size 55 _ (hdCells V).toArray hz4 rfl rfl (by rw [hV35.out, h35.out]) (by rw [hV35.out]; exact inf_hd) (hdCells_one V) ?_; intro W7 hb7 hg7 hs7; have hB67 := grown_below ((Below.refl W4.heap.size W4).alloc (Nat.le_refl _) (.cells (hdCells zhd).toArray 55)) hg7 (by simp) (Nat.le_refl _); have B7 := B4.trans (hB67.mono B4.size))
            go_ret
            exact ⟨rfl, B7⟩
          · have hn3 : ((n : Int) != 2820) = true := by have : n ≠ 2820 := hn2; simp; omega
            clear hk1 hn1 hn2
            go_wp2_with ((with_reducible refine at_store 55 ?_); refine wpList_storeAll _ rfl 55 _ _ rfl W4.heap.size 55 _ (hdCells V).toArray hz4 rfl rfl (by rw [hV35.out, h35.out]) (by rw [hV35.out]; exact inf_hd) (hdCells_one V) ?_; intro W7 hb7 hg7 hs7; have hB67 := grown_below ((Below.refl W4.heap.size W4).alloc (Nat.le_refl _) (.cells (hdCells zhd).toArray 55)) hg7 (by simp) (Nat.le_refl _); have B7 := B4.trans (hB67.mono B4.size))
            go_ret
            exact ⟨rfl, B7⟩
        · have ho : o ≠ 1 ∧ o ≠ 2 ∧ o ≠ 3 := by simpa [isKind, and_assoc] using hk1
          have k1 : (((o : Nat) : Int) == 1) = false := by simp; omega
          have k2 : (((o : Nat) : Int) == 2) = false := by simp; omega
          have k3 : (((o : Nat) : Int) == 3) = false := by simp; omega
          clear hk1 hn1 ho
          go_wp2_with ((with_reducible refine at_store 55 ?_); refine wpList_storeAll _ rfl 55 _ _ rfl W4.heap.size 55 _ (hdCells V).toArray hz4 rfl rfl (by rw [hV35.out, h35.out]) (by rw [hV35.out]; exact inf_hd) (hdCells_one V) ?_; intro W7 hb7 hg7 hs7; have hB67 := grown_below ((Below.refl W4.heap.size W4).alloc (Nat.le_refl _) (.cells (hdCells zhd).toArray 55)) hg7 (by simp) (Nat.le_refl _); have B7 := B4.trans (hB67.mono B4.size))
          go_ret
          exact ⟨rfl, B7⟩
    · have hp : packOk h pay = false := by have := HL2.out; simp [packOk, hk, ← this, hsz]
      have hne : (((h.size : Nat) : Int) != (n2 : Int)) = true := by simp; omega
      have e1 : XE = 150 := by rw [HXE.out, packErr, hp]; rfl
      have e2 : X = [] := by rw [HX.out, packV, hp]; rfl
      clear HX HXE
      subst e1 e2
      clear hp hk
      go_wp2
      go_ret
      exact ⟨rfl, B3⟩
end Go.Proofs.Ytnjfghlgknnhmaa
