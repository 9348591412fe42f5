/-
  Walk: portreeveref14.Split.
-/
import Derived.Test.YtnjfghlgknnhmaaImgN
namespace Go.Proofs.Ytnjfghlgknnhmaa
open Go.RowKit

set_option maxRecDepth 100000 in
set_option maxHeartbeats 4000000 in
theorem rSplit_any (A : Option Addr) (n c : Nat) (hc : n ≤ c) (hn : n ≤ 1000000) (l : List UInt8) (o : Nat) (w : World) (h : Rd w w.heap.size 1 A n (bcells l)) :
    Calls Try.prog 34 #[.slice A n c, .int .u32 (o : Int)] w (SplRet w l o) := by
  have hlen : n = l.length := by have := h.len; rw [bcells_length] at this; omega
  have hz := zeroHd
  have hb0 := run_hd0
  have h35 := Lib.hid hdz35
  have hh : hgt o ≤ 20 := by unfold hgt; split <;> (try split) <;> (try split) <;> omega
  have hbH := Blk.new w 55 (hdCells zhd).toArray
  have B1 : Below w.heap.size w (w.alloc (.cells (hdCells zhd).toArray 55)) := (Below.refl _ _).alloc (Nat.le_refl _) _
  have HL := Lib.hid hlen
  clear hlen
  go_enter Try.func34, Try.ntmps34
  go_wp2_with fail
  generalize w.alloc (.cells (hdCells zhd).toArray 55) = W1 at *
  refine (rHeight_any o W1).mono ?_
  rintro e w' ⟨rfl, rfl⟩
  cases hk : isKind o with
  | false =>
    have hgf : Hid (splGood l o = false) := Lib.hid (by simp [splGood, hk])
    have hko : Hid ((80 : Int) = if isKind o then 150 else 80) := Lib.hid (by rw [hk]; rfl)
    go_wp2_with ((with_reducible refine at_store 55 ?_); refine wpList_storeAll _ rfl 55 _ _ rfl w.heap.size 55 _ (hdCells zhd).toArray hbH rfl rfl rfl (by rw [h35.out]; exact inf_hd) (hdCells_one zhd) ?_; intro w8 hb8 hg8 hs8)
    refine bodyPost_ret (results_cell_tmp4 rfl _ _ w.heap.size _ _ _ _ rfl hb8 Try.underlying55 rfl (by rw [h35.out]; exact inf_hd)) rfl ?_
    exact SplRet.bad hgf.out hko.out (grown_below B1 hg8 B1.size (Nat.le_refl _))
  | true =>
    obtain ⟨S, hS⟩ : ∃ S, S = 36 + 32 * (67 + hgt o) := ⟨_, rfl⟩
    have hss : Hid (S = sigSize o) := Lib.hid (by simp [sigSize, hk, hS])
    have hs1 : S ≤ 3000 := by omega
    have hs2 : 2000 ≤ S := by omega
    have hSi : 36 + 32 * (67 + (hgt o : Int)) = (S : Int) := by omega
    have hko : Hid ((150 : Int) = if isKind o then 150 else 80) := Lib.hid (by rw [hk]; rfl)
    have HS := hss
    have HK := Lib.hid hk
    clear hS hk
    by_cases hsh : n < 64 + S
    · have hgf : Hid (splGood l o = false) := Lib.hid (by
        have : ¬ 64 + sigSize o ≤ l.length := by have := HL.out; have := HS.out; omega
        simp [splGood, this])
      go_wp2_with ((with_reducible refine at_store 55 ?_); refine wpList_storeAll _ rfl 55 _ _ rfl w.heap.size 55 _ (hdCells zhd).toArray hbH rfl rfl rfl (by rw [h35.out]; exact inf_hd) (hdCells_one zhd) ?_; intro w8 hb8 hg8 hs8)
      refine bodyPost_ret (results_cell_tmp4 rfl _ _ w.heap.size _ _ _ _ rfl hb8 Try.underlying55 rfl (by rw [h35.out]; exact inf_hd)) rfl ?_
      exact SplRet.bad hgf.out hko.out (grown_below B1 hg8 B1.size (Nat.le_refl _))
    · have c64 : (64 : Int) ≤ (c : Int) := by omega
      go_wp2_with fail
      have hft : Rd W1 W1.heap.size 1 A 64 (bcells (l.take 64)) := by
        have h1 := ((h.below B1).more B1.size).front (k := 64) (by omega)
        have e1 : (bcells l).take (64 * 1) = bcells (l.take 64) := by simp [bcells]
        rwa [e1] at h1
      obtain ⟨V, hV⟩ : ∃ V, V = hdVal (l.take 64) := ⟨_, rfl⟩
      have okV : V.ok := by rw [hV]; exact hdVal_ok _
      have hV35 : Hid ((hdCells V).toArray.size = 35) := Lib.hid (by rw [List.size_toArray, hdCells_length V okV.dig])
      have HV := Lib.hid hV
      have hvs : V.size < 4294967296 := okV.size
      refine (rHeaderOf_any A 64 c (by omega) (l.take 64) W1 hft).mono ?_
      rintro e W2 ⟨rfl, hB2⟩
      rw [← HV.out]
      have hbH2 := hbH.below hB2 hbH.lt
      have hlt2 := hbH2.lt
      have B2 := B1.trans (hB2.mono B1.size)
      have hbN := Blk.new W2 55 (hdCells zhd).toArray
      clear hV hbH B1 hB2 hft hb0
      have hb0 := run_hd0
      have st : ∀ W3, Blk W3 W2.heap.size 55 (hdCells V).toArray → (W2.alloc (.cells (hdCells zhd).toArray 55)).grownBy W3 (some W2.heap.size) → Below w.heap.size w W3 ∧ Blk W3 w.heap.size 55 (hdCells zhd).toArray := fun W3 h1 h2 =>
        ⟨grown_below (B2.alloc B2.size _) h2 (by simp; have := B2.size; omega) B2.size, (hbH2.alloc _).grown h2 (by simp; omega)⟩
      cases hg : hdGood (l.take 64) with
      | false =>
        have hE : hdErr (l.take 64) = 150 := by rw [hdErr, hg]; rfl
        have hgf : Hid (splGood l o = false) := Lib.hid (by simp [splGood, hg])
        rw [hE]
        clear hE hg
        go_wp2_with (first
          | ((with_reducible refine at_store 55 ?_); refine wpList_storeAll _ rfl 55 _ _ rfl W2.heap.size 55 _ (hdCells V).toArray hbN rfl rfl (by rw [hV35.out, h35.out]) (by rw [hV35.out]; exact inf_hd) (hdCells_one V) ?_; intro W3 hb3 hg3 hs3; obtain ⟨B3, hbX3⟩ := st W3 hb3 hg3; clear st hg3 hs3)
          | ((with_reducible refine at_store 55 ?_); refine wpList_storeAll _ rfl 55 _ _ rfl w.heap.size 55 _ (hdCells zhd).toArray hbX3 rfl rfl rfl (by rw [h35.out]; exact inf_hd) (hdCells_one zhd) ?_; intro w8 hb8 hg8 hs8))
        refine bodyPost_ret (results_cell_tmp4 rfl _ _ w.heap.size _ _ _ _ rfl hb8 Try.underlying55 rfl (by rw [h35.out]; exact inf_hd)) rfl ?_
        exact SplRet.bad hgf.out hko.out (grown_below B3 hg8 B3.size (Nat.le_refl _))
      | true =>
        have hE : hdErr (l.take 64) = 0 := by rw [hdErr, hg]; rfl
        rw [hE]
        have HG := Lib.hid hg
        have hw1 : IntKind.u64.wrap ((n : Int) - 64 - (S : Int)) = ((n - 64 - S : Nat) : Int) := by rw [IntWalk.u64_in _ (by omega)]; omega
        have hw2 : IntKind.u64.wrap (V.size : Int) = (V.size : Int) := IntWalk.u64_in _ (by omega)
        clear hE hg
        by_cases hsz : n - 64 - S = V.size
        · have hCC : (l.drop (64 + S)).take (n - (64 + S)) = l.drop (64 + S) := List.take_of_length_le (by rw [List.length_drop]; have := HL.out; omega)
          have HCC := Lib.hid hCC
          have hgd : Hid (splGood l o = true) := Lib.hid (by
            have h1 := HS.out; have h2 := HL.out; have h3 := HV.out; have h4 := HK.out; have h5 := HG.out
            have h6 : 64 + sigSize o ≤ l.length := by omega
            have h7 : l.length - 64 - sigSize o = (hdVal (l.take 64)).size := by rw [← h1, ← h2, ← h3]; exact hsz
            simp [splGood, h4, h5, h6, h7])
          have heq : ((((n - 64 - S : Nat) : Int)) != (V.size : Int)) = false := by simp; omega
          clear hCC hko
          obtain ⟨b, off, rfl, _, _⟩ := h.range (by omega)
          go_wp2_with ((with_reducible refine at_store 55 ?_); refine wpList_storeAll _ rfl 55 _ _ rfl W2.heap.size 55 _ (hdCells V).toArray hbN rfl rfl (by rw [hV35.out, h35.out]) (by rw [hV35.out]; exact inf_hd) (hdCells_one V) ?_; intro W3 hb3 hg3 hs3; obtain ⟨B3, hbX3⟩ := st W3 hb3 hg3; clear st hg3 hs3; have c4 : W3.cell? ⟨W2.heap.size, 1, none⟩ = some (.int .u32 (V.size : Int)) := (hb3.cell 1).trans rfl)
          have hg2 : w.heap.size < W2.heap.size := hlt2
          have hgw : w.heap.size ≤ W3.drew.heap.size := B3.size
          generalize W2.heap.size = g2 at *
          have hR3 := (h.below B3).drew
          have hA := rd_part hR3 hc 0 64 (by omega)
          have hB' := rd_part hR3 hc 64 S (by omega)
          have hC' := rd_part hR3 hc (64 + S) (n - (64 + S)) (by omega)
          have hsB := fun W => run_slice_nat (P := Try.prog) W 27 (by kernel_rfl) (by kernel_rfl) b off n c 64 S (by omega)
          have hsC := fun W => run_slice_lo (P := Try.prog) W 27 (by kernel_rfl) (by kernel_rfl) b off n c (64 + S) (64 + (S : Int)) (by omega) (by omega)
          rw [show ((64 + S : Nat) : Int) = 64 + (S : Int) by omega, show ((64 : Nat) : Int) = 64 from rfl] at hsB
          rw [HCC.out] at hC'
          generalize (if c = 64 then (⟨b, off, none⟩ : Addr) else ⟨b, off + 64, none⟩) = AB at *
          generalize (if c = 64 + S then (⟨b, off, none⟩ : Addr) else ⟨b, off + (64 + S), none⟩) = AC at *
          have hc0 : ¬ c = 0 := by omega
          simp only [List.drop_zero, if_neg hc0, Nat.add_zero] at hA
          clear hbH2 B2 hz hb0 hw1 hw2 heq c4
          refine Flow.wp_region_flow (w.heap.size) [(11, fun b => b = w.heap.size)] [(0, fun W => Blk W g2 55 ((hdCells V).toArray)), (11, fun W => Blk W w.heap.size 55 ((hdCells zhd).toArray))] (by kernel_rfl) (by kernel_rfl) hgw (Flow.nz_cons (by rintro b rfl; exact Nat.le_refl _) Flow.nz_nil) (Flow.facts_cons (hb3.drew) (Flow.kept_blk id) (Flow.fz_cons (Flow.no_follow (by kernel_rfl)) Flow.fz_nil) (Flow.facts_cons (hbX3.drew) (Flow.kept_blk id) (Flow.fz_cons (Flow.no_follow (by kernel_rfl)) Flow.fz_nil) Flow.facts_nil)) ?_
          refine Flow.pass_val (.agg (hdCells V).toArray) (Flow.met_none rfl) (fun a W hH => ?_) ?_
          · have e0 := Flow.see_old 12 hH.sees (by kernel_rfl) (by kernel_rfl) rfl
            have fa0 : (fun W => Blk W g2 55 ((hdCells V).toArray)) W := hH.fact _ (List.mem_of_getElem? (i := 0) rfl) rfl
            exact reg_load 55 _ rfl e0 fa0 Try.underlying55 rfl (by rw [hV35.out]; exact inf_hd)
          refine Flow.pass_old (X := .slice (some ⟨b, off, none⟩) n c) 0 (Flow.met_none rfl) (.inl rfl) (by kernel_rfl) (by kernel_rfl) rfl ?_
          refine Flow.pass_val (.slice (some ⟨b, off, none⟩) 64 c) (Flow.met_none rfl) (fun a W hH => ?_) ?_
          · have e0 := Flow.see_new 54 1 hH.sees (by kernel_rfl) (by kernel_rfl) rfl rfl
            go_simp; first | done | rfl
          refine Flow.pass_old (X := .slice (some ⟨b, off, none⟩) n c) 0 (Flow.met_none rfl) (.inl rfl) (by kernel_rfl) (by kernel_rfl) rfl ?_
          refine Flow.pass_old (X := .int .i64 (S : Int)) 11 (Flow.met_none rfl) (.inl rfl) (by kernel_rfl) (by kernel_rfl) rfl ?_
          refine Flow.pass_val (.int .i64 (64 + (S : Int))) (Flow.met_none rfl) (fun a W hH => ?_) ?_
          · have e0 := Flow.see_new 57 4 hH.sees (by kernel_rfl) (by kernel_rfl) rfl rfl
            go_simp; first | done | rfl | (rw [IntWalk.i64_in _ (by omega)]; first | done | rfl | omega | (simp; done))
          refine Flow.pass_val (.slice (some AB) S (c - 64)) (Flow.met_none rfl) (fun a W hH => ?_) ?_
          · have e0 := Flow.see_new 56 3 hH.sees (by kernel_rfl) (by kernel_rfl) rfl rfl
            have e1 := Flow.see_new 58 5 hH.sees (by kernel_rfl) (by kernel_rfl) rfl rfl
            have hq := hsB W; go_simp; first | done | rfl
          refine Flow.pass_old (X := .slice (some ⟨b, off, none⟩) n c) 0 (Flow.met_none rfl) (.inl rfl) (by kernel_rfl) (by kernel_rfl) rfl ?_
          refine Flow.pass_old (X := .int .i64 (S : Int)) 11 (Flow.met_none rfl) (.inl rfl) (by kernel_rfl) (by kernel_rfl) rfl ?_
          refine Flow.pass_val (.int .i64 (64 + (S : Int))) (Flow.met_none rfl) (fun a W hH => ?_) ?_
          · have e0 := Flow.see_new 61 8 hH.sees (by kernel_rfl) (by kernel_rfl) rfl rfl
            go_simp; first | done | rfl | (rw [IntWalk.i64_in _ (by omega)]; first | done | rfl | omega | (simp; done))
          refine Flow.pass_val (.slice (some AC) (n - (64 + S)) (c - (64 + S))) (Flow.met_none rfl) (fun a W hH => ?_) ?_
          · have e0 := Flow.see_new 60 7 hH.sees (by kernel_rfl) (by kernel_rfl) rfl rfl
            have e1 := Flow.see_new 62 9 hH.sees (by kernel_rfl) (by kernel_rfl) rfl rfl
            have hq := hsC W; go_simp; first | done | rfl
          refine Flow.pass_list (fun _ W => Blk W w.heap.size 55 (hdCells V).toArray) (Flow.kept_of (fun _ _ _ c h => h.chg c id) (Flow.kz_cons (Flow.no_follow (by kernel_rfl)) Flow.kz_nil)) (Flow.met_none rfl) (fun a W hH => ?_) ?_
          · have e0 := Flow.see_old 4 hH.sees (by kernel_rfl) (by kernel_rfl) rfl
            have e1 := Flow.see_new 53 0 hH.sees (by kernel_rfl) (by kernel_rfl) rfl rfl
            have fa1 : (fun W => Blk W w.heap.size 55 ((hdCells zhd).toArray)) W := hH.fact _ (List.mem_of_getElem? (i := 1) rfl) rfl
            refine wpList_storeAll W rfl 55 _ _ rfl w.heap.size 55 _ (hdCells V).toArray fa1 (by simpa [Act.eval] using e0) (by simpa [Act.eval] using e1) (by rw [hV35.out, h35.out]) (by rw [hV35.out]; exact inf_hd) (hdCells_one V) ?_
            intro W2 h2 hg _
            exact Flow.qq_nil ⟨_, rfl, Chg.grown hg (by rintro k h; cases h; rfl), h2⟩
          refine Flow.pass_copy 55 2 (Flow.met_none rfl) (.inr rfl) (by kernel_rfl) (by kernel_rfl) rfl rfl (fun _ _ => Flow.kept_eqs _ _) ?_
          refine Flow.pass_copy 59 6 (Flow.met_none rfl) (.inr rfl) (by kernel_rfl) (by kernel_rfl) rfl rfl (fun _ _ => Flow.kept_eqs _ _) ?_
          refine Flow.pass_copy 63 10 (Flow.met_none rfl) (.inr rfl) (by kernel_rfl) (by kernel_rfl) rfl rfl (fun _ _ => Flow.kept_eqs _ _) ?_
          apply Flow.pass_val (hm := (Flow.met_none rfl))
          · intro a W hH
            go_simp; first | done | rfl
          refine Flow.pass_end [none, none, none, none, none, some 5, some 6, some 7, some 8, none, none, none, none, none, none, none, none, none, none, none, none, none, none, none, none, none, none, none, none, none, none, none, none, none, none, none, none, none, none, none, none, none, none, none, none, none, none, none, none, none, none, none, none, some 53, some 54, some 55, some 56, some 57, some 58, some 59, some 60, some 61, some 62, some 63] (by kernel_rfl) ?_
          intro f gg w9 hB hfa hT hfg
          have h5 : f 5 = _ := (hfg 5 12 (by kernel_rfl)).trans (hT 12 _ (by kernel_rfl) rfl)
          have h6 : f 6 = _ := (hfg 6 13 (by kernel_rfl)).trans (hT 13 _ (by kernel_rfl) rfl)
          have h7 : f 7 = _ := (hfg 7 14 (by kernel_rfl)).trans (hT 14 _ (by kernel_rfl) rfl)
          have h8 : f 8 = _ := (hfg 8 15 (by kernel_rfl)).trans (hT 15 _ (by kernel_rfl) rfl)
          have hb9 : Blk w9 w.heap.size 55 (hdCells V).toArray := hT 11 _ (by kernel_rfl) rfl
          have B9 := B3.drew.trans hB
          have hA9 := (hA.below hB).more B9.size
          have hB9 := (hB'.below hB).more B9.size
          have hC9 := (hC'.below hB).more B9.size
          simp only [Reg.sel, h5, h6, h7, h8]
          clear hT hfg hfa hB h5 h6 h7 h8
          go_wp2
          refine bodyPost_ret (results_cell_tmp4 rfl _ _ w.heap.size _ _ _ _ rfl hb9 Try.underlying55 rfl (by rw [hV35.out]; exact inf_hd)) rfl ?_
          have e1 : splA l o = l.take 64 := by rw [splA, if_pos hgd.out]
          have e2 : splB l o = (l.drop 64).take S := by rw [splB, if_pos hgd.out, HS.out]
          have e3 : splC l o = l.drop (64 + S) := by rw [splC, if_pos hgd.out, HS.out]
          have e4 : splHd l o = V := by rw [splHd, if_pos hgd.out, HV.out]
          have e5 : splErr l o = 0 := by rw [splErr, if_pos hgd.out]
          have l1 : (l.take 64).length = 64 := by rw [List.length_take]; have := HL.out; omega
          have l2 : ((l.drop 64).take S).length = S := by rw [List.length_take, List.length_drop]; have := HL.out; omega
          have l3 : (l.drop (64 + S)).length = n - (64 + S) := by rw [List.length_drop]; have := HL.out; omega
          unfold SplRet
          rw [e1, e2, e3, e4, e5, l1, l2, l3]
          exact ⟨_, _, _, _, _, _, rfl, hA9, hB9, hC9, B9⟩
        · have hgf : Hid (splGood l o = false) := Lib.hid (by
            have h1 := HS.out; have h2 := HL.out; have h3 := HV.out
            have : ¬ (l.length - 64 - sigSize o = (hdVal (l.take 64)).size) := by rw [← h1, ← h2, ← h3]; exact hsz
            simp [splGood, this])
          have hne : ((((n - 64 - S : Nat) : Int)) != (V.size : Int)) = true := by simp; omega
          go_wp2_with (first
            | ((with_reducible refine at_store 55 ?_); refine wpList_storeAll _ rfl 55 _ _ rfl W2.heap.size 55 _ (hdCells V).toArray hbN rfl rfl (by rw [hV35.out, h35.out]) (by rw [hV35.out]; exact inf_hd) (hdCells_one V) ?_; intro W3 hb3 hg3 hs3; obtain ⟨B3, hbX3⟩ := st W3 hb3 hg3; clear st hg3 hs3; have c4 : W3.cell? ⟨W2.heap.size, 1, none⟩ = some (.int .u32 (V.size : Int)) := (hb3.cell 1).trans rfl)
            | ((with_reducible refine at_store 55 ?_); refine wpList_storeAll _ rfl 55 _ _ rfl w.heap.size 55 _ (hdCells zhd).toArray hbX3 rfl rfl rfl (by rw [h35.out]; exact inf_hd) (hdCells_one zhd) ?_; intro w8 hb8 hg8 hs8))
          refine bodyPost_ret (results_cell_tmp4 rfl _ _ w.heap.size _ _ _ _ rfl hb8 Try.underlying55 rfl (by rw [h35.out]; exact inf_hd)) rfl ?_
          exact SplRet.bad hgf.out hko.out (grown_below B3 hg8 B3.size (Nat.le_refl _))
end Go.Proofs.Ytnjfghlgknnhmaa
