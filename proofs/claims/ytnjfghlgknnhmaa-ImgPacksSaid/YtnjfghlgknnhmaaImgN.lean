/-
  Walk: img.Split.
-/
import Derived.Test.YtnjfghlgknnhmaaImgM
namespace Go.Proofs.Ytnjfghlgknnhmaa
open Go.RowKit

theorem blkI1' (w : World) (o : Obj) (t : TypeId) (cs : Array Value) : Blk ((w.alloc (.cells cs t)).alloc o) w.heap.size t cs := (Blk.new w t cs).alloc o

set_option maxRecDepth 100000 in
set_option maxHeartbeats 4000000 in
theorem mSplit_any (A : Option Addr) (n c : Nat) (hc : n ≤ c) (hn : n ≤ 1000000) (l : List UInt8) (o : Nat) (w : World) (h : Rd w w.heap.size 1 A n (bcells l)) :
    Calls Try.prog 33 #[.slice A n c, .int .u32 (o : Int)] w (SplRet w l o) := by
  have hlen : n = l.length := by have := h.len; rw [bcells_length] at this; omega
  have hz := zeroHd
  have hb0 := run_hd0
  have h35 := Lib.hid hdz35
  have hh : hgt o ≤ 20 := by unfold hgt; split <;> (try split) <;> (try split) <;> omega
  have hbX := blkI1' w (.cells (hdCells zhd).toArray 55) 27 #[.slice A n c]
  have hbH := blkI1 w (.cells #[.slice A n c] 27) 55 (hdCells zhd).toArray
  have B1 : Below w.heap.size w ((w.alloc (.cells #[.slice A n c] 27)).alloc (.cells (hdCells zhd).toArray 55)) := ((Below.refl _ _).alloc (Nat.le_refl _) _).alloc (by simp) _
  have HL := Lib.hid hlen
  clear hlen
  go_enter Try.func33, Try.ntmps33
  go_wp2_with fail
  generalize (w.alloc (.cells #[.slice A n c] 27)).alloc (.cells (hdCells zhd).toArray 55) = W1 at *
  have c0 : W1.cell? ⟨w.heap.size, 0, none⟩ = some (.slice A n c) := (hbX.cell 0).trans rfl
  refine (mSize_any o W1).mono ?_
  rintro e w' ⟨rfl, rfl⟩
  cases hk : isKind o with
  | false =>
    have hgf : Hid (splGood l o = false) := Lib.hid (by simp [splGood, hk])
    have hko : Hid ((80 : Int) = if isKind o then 150 else 80) := Lib.hid (by rw [hk]; rfl)
    go_wp2_with ((with_reducible refine at_store 55 ?_); refine wpList_storeAll _ rfl 55 _ _ rfl (w.heap.size + 1) 55 _ (hdCells zhd).toArray hbH rfl rfl rfl (by rw [h35.out]; exact inf_hd) (hdCells_one zhd) ?_; intro w8 hb8 hg8 hs8)
    refine bodyPost_ret (results_cell_tmp4 rfl _ _ (w.heap.size + 1) _ _ _ _ rfl hb8 Try.underlying55 rfl (by rw [h35.out]; exact inf_hd)) rfl ?_
    exact SplRet.bad hgf.out hko.out (grown_below B1 hg8 B1.size (by omega))
  | true =>
    have hss : Hid (sigSize o = 36 + 32 * (67 + hgt o)) := Lib.hid (by simp [sigSize, hk])
    have hs1 : sigSize o ≤ 3000 := by rw [hss.out]; omega
    have hs2 : 2000 ≤ sigSize o := by rw [hss.out]; omega
    have hko : Hid ((150 : Int) = if isKind o then 150 else 80) := Lib.hid (by rw [hk]; rfl)
    obtain ⟨S, hS⟩ : ∃ S, S = sigSize o := ⟨_, rfl⟩
    rw [← hS] at hs1 hs2 ⊢
    have HS := Lib.hid hS
    have HK := Lib.hid hk
    clear hS hk
    by_cases hsh : n < 64 + S
    · have hgf : Hid (splGood l o = false) := Lib.hid (by
        have : ¬ 64 + sigSize o ≤ l.length := by have := HL.out; have := HS.out; omega
        simp [splGood, this])
      go_wp2_with ((with_reducible refine at_store 55 ?_); refine wpList_storeAll _ rfl 55 _ _ rfl (w.heap.size + 1) 55 _ (hdCells zhd).toArray hbH rfl rfl rfl (by rw [h35.out]; exact inf_hd) (hdCells_one zhd) ?_; intro w8 hb8 hg8 hs8)
      refine bodyPost_ret (results_cell_tmp4 rfl _ _ (w.heap.size + 1) _ _ _ _ rfl hb8 Try.underlying55 rfl (by rw [h35.out]; exact inf_hd)) rfl ?_
      exact SplRet.bad hgf.out hko.out (grown_below B1 hg8 B1.size (by omega))
    · have c64 : (64 : Int) ≤ (c : Int) := by omega
      go_wp2_with fail
      have hft : Rd W1 W1.heap.size 1 A 64 (bcells (l.take 64)) := by
        have h1 := ((h.below B1).more B1.size).front (k := 64) (by omega)
        have e1 : (bcells l).take (64 * 1) = bcells (l.take 64) := by simp [bcells]
        rwa [e1] at h1
      obtain ⟨V, hV⟩ : ∃ V, V = hdVal (l.take 64) := ⟨_, rfl⟩
      have okV : V.ok := by rw [hV]; exact hdVal_ok _
      have hV35 : Hid ((hdCells V).toArray.size = 35) := Lib.hid (by rw [List.size_toArray, hdCells_length V okV.dig])
      have HV := Lib.hid hV
      have hvs : V.size < 4294967296 := okV.size
      refine (mOf_any A 64 c (by omega) (l.take 64) W1 hft).mono ?_
      rintro e W2 ⟨rfl, hB2⟩
      rw [← HV.out]
      have hbX2 := hbX.below hB2 hbX.lt
      have hbH2 := hbH.below hB2 hbH.lt
      have B2 := B1.trans (hB2.mono B1.size)
      clear hV hbX hbH B1 hB2 c0 hft hb0
      have hb0 := run_hd0
      have st : ∀ W3, Blk W3 (w.heap.size + 1) 55 (hdCells V).toArray → W2.grownBy W3 (some (w.heap.size + 1)) → Below w.heap.size w W3 ∧ Blk W3 w.heap.size 27 #[.slice A n c] := fun W3 h1 h2 =>
        ⟨grown_below B2 h2 B2.size (by omega), hbX2.grown h2 (by simp)⟩
      cases hg : hdGood (l.take 64) with
      | false =>
        have hE : hdErr (l.take 64) = 150 := by rw [hdErr, hg]; rfl
        have hgf : Hid (splGood l o = false) := Lib.hid (by simp [splGood, hg])
        rw [hE]
        clear hE hg
        go_wp2_with (first
          | ((with_reducible refine at_store 55 ?_); refine wpList_storeAll W2 rfl 55 _ _ rfl (w.heap.size + 1) 55 _ (hdCells V).toArray hbH2 rfl rfl (by rw [hV35.out, h35.out]) (by rw [hV35.out]; exact inf_hd) (hdCells_one V) ?_; intro W3 hb3 hg3 hs3; obtain ⟨B3, hbX3⟩ := st W3 hb3 hg3; clear st hg3 hs3)
          | ((with_reducible refine at_store 55 ?_); refine wpList_storeAll _ rfl 55 _ _ rfl (w.heap.size + 1) 55 _ (hdCells zhd).toArray hb3 rfl rfl (by rw [hV35.out, h35.out]) (by rw [h35.out]; exact inf_hd) (hdCells_one zhd) ?_; intro w8 hb8 hg8 hs8))
        refine bodyPost_ret (results_cell_tmp4 rfl _ _ (w.heap.size + 1) _ _ _ _ rfl hb8 Try.underlying55 rfl (by rw [h35.out]; exact inf_hd)) rfl ?_
        exact SplRet.bad hgf.out hko.out (grown_below B3 hg8 B3.size (by omega))
      | true =>
        have hE : hdErr (l.take 64) = 0 := by rw [hdErr, hg]; rfl
        rw [hE]
        have HG := Lib.hid hg
        have hw1 : IntKind.u64.wrap ((n : Int) - 64 - (S : Int)) = ((n - 64 - S : Nat) : Int) := by rw [IntWalk.u64_in _ (by omega)]; omega
        have hw2 : IntKind.u64.wrap (V.size : Int) = (V.size : Int) := IntWalk.u64_in _ (by omega)
        clear hE hg
        by_cases hsz : n - 64 - S = V.size
        · have hCC : (l.drop (64 + S)).take (n - (64 + S)) = l.drop (64 + S) := List.take_of_length_le (by rw [List.length_drop]; have := HL.out; omega)
          have HCC := Lib.hid hCC
          have hgd : Hid (splGood l o = true) := Lib.hid (by
            have h1 := HS.out; have h2 := HL.out; have h3 := HV.out; have h4 := HK.out; have h5 := HG.out
            have h6 : 64 + sigSize o ≤ l.length := by omega
            have h7 : l.length - 64 - sigSize o = (hdVal (l.take 64)).size := by rw [← h1, ← h2, ← h3]; exact hsz
            simp [splGood, h4, h5, h6, h7])
          have heq : ((((n - 64 - S : Nat) : Int)) != (V.size : Int)) = false := by simp; omega
          clear hCC hko
          obtain ⟨b, off, rfl, _, _⟩ := h.range (by omega)
          go_wp2_with ((with_reducible refine at_store 55 ?_); refine wpList_storeAll W2 rfl 55 _ _ rfl (w.heap.size + 1) 55 _ (hdCells V).toArray hbH2 rfl rfl (by rw [hV35.out, h35.out]) (by rw [hV35.out]; exact inf_hd) (hdCells_one V) ?_; intro W3 hb3 hg3 hs3; obtain ⟨B3, hbX3⟩ := st W3 hb3 hg3; clear st hg3 hs3; have c3 : W3.cell? ⟨w.heap.size, 0, none⟩ = some (.slice (some ⟨b, off, none⟩) n c) := (hbX3.cell 0).trans rfl; have c4 : W3.cell? ⟨w.heap.size + 1, 1, none⟩ = some (.int .u32 (V.size : Int)) := (hb3.cell 1).trans rfl)
          have hN3 : w.heap.size + 2 ≤ W3.drew.heap.size := hb3.lt
          have hR3 := (h.below B3).drew
          clear hbX2 hbH2 B2 hz hb0 hw1 hw2 heq c3 c4
          refine Flow.wp_region_flow (w.heap.size) [(13, fun b => b = w.heap.size + 1)] [(0, fun W => Blk W (w.heap.size + 1) 55 ((hdCells V).toArray)), (2, fun W => Blk W w.heap.size 27 (#[.slice (some ⟨b, off, none⟩) n c])), (6, fun W => Blk W w.heap.size 27 (#[.slice (some ⟨b, off, none⟩) n c])), (10, fun W => Blk W w.heap.size 27 (#[.slice (some ⟨b, off, none⟩) n c])), (12, fun W => Blk W w.heap.size 27 (#[.slice (some ⟨b, off, none⟩) n c])), (13, fun W => Blk W (w.heap.size + 1) 55 ((hdCells V).toArray))] (by kernel_rfl) (by kernel_rfl) B3.drew.size (Flow.nz_cons (by rintro b rfl; exact Nat.le_succ _) Flow.nz_nil) (Flow.facts_cons (hb3.drew) (Flow.kept_blk id) (Flow.fz_cons (Flow.no_follow (by kernel_rfl)) Flow.fz_nil) (Flow.facts_cons (hbX3.drew) (Flow.kept_blk id) (Flow.fz_cons (Flow.no_follow (by kernel_rfl)) Flow.fz_nil) (Flow.facts_cons (hbX3.drew) (Flow.kept_blk id) (Flow.fz_cons (Flow.no_follow (by kernel_rfl)) Flow.fz_nil) (Flow.facts_cons (hbX3.drew) (Flow.kept_blk id) (Flow.fz_cons (Flow.no_follow (by kernel_rfl)) Flow.fz_nil) (Flow.facts_cons (hbX3.drew) (Flow.kept_blk id) (Flow.fz_cons (Flow.no_follow (by kernel_rfl)) Flow.fz_nil) (Flow.facts_cons (hb3.drew) (Flow.kept_blk id) (Flow.fz_cons (Flow.no_follow (by kernel_rfl)) Flow.fz_nil) Flow.facts_nil)))))) ?_
          refine Flow.pass_val (.agg (hdCells V).toArray) (Flow.met_none rfl) (fun a W hH => ?_) ?_
          · have e0 := Flow.see_old 4 hH.sees (by kernel_rfl) (by kernel_rfl) rfl
            have fa0 : (fun W => Blk W (w.heap.size + 1) 55 ((hdCells V).toArray)) W := hH.fact _ (List.mem_of_getElem? (i := 0) rfl) rfl
            exact reg_load 55 _ rfl e0 fa0 Try.underlying55 rfl (by rw [hV35.out]; exact inf_hd)
          refine Flow.pass_old (X := .func (.func 63) #[] #[.pointer (some ⟨w.heap.size, 0, none⟩)]) 11 (Flow.met_none rfl) (.inl rfl) (by kernel_rfl) (by kernel_rfl) rfl ?_
          refine Flow.pass_gen (fun v W => ∃ A k, v = .slice A (64) k ∧ W.ownsRow (w.heap.size + 2) 5 1 (.slice A (64) k) (64) (bcells (l.take 64))) (Flow.kept_of (fun _ _ _ c ⟨A, k, h1, h2⟩ => ⟨A, k, h1, own_chg h2 c (fun _ _ => id)⟩) (Flow.kz_cons (fun _ => fun _ _ _ c ⟨A, k, h1, h2⟩ => ⟨A, k, h1, own_chg h2 c (fun k hk e => by have := (h2.lt k hk).1; have e2 : k = w.heap.size + 1 := e; omega)⟩) Flow.kz_nil)) (Flow.met_none rfl) (fun a W hH => ?_) ?_
          · have e0 := Flow.see_new 49 1 hH.sees (by kernel_rfl) (by kernel_rfl) rfl rfl
            have fa1 : (fun W => Blk W w.heap.size 27 (#[.slice (some ⟨b, off, none⟩) n c])) W := hH.fact _ (List.mem_of_getElem? (i := 1) rfl) rfl
            refine Flow.wp_callF rfl e0 Try.func63 rfl (by kernel_rfl) (by simp [Act.eval]) (split1' w.heap.size b off n c hc l (0) (64) (0) (64) (by omega) (by omega) (by omega) (by omega) hn W fa1 ((hR3.below hH.below).more (Nat.le_trans B3.size hH.below.size))) ?_
            rintro e w' ⟨A9, c9, rfl, hO, hB⟩
            have hw2 : w.heap.size + 2 ≤ W.heap.size := Nat.le_trans hN3 hH.below.size
            rw [List.drop_zero] at hO
            exact ⟨_, rfl, Chg.of_ext hB, A9, c9, rfl, own_baseI hO hw2⟩
          refine Flow.pass_old (X := .func (.func 63) #[] #[.pointer (some ⟨w.heap.size, 0, none⟩)]) 11 (Flow.met_none rfl) (.inl rfl) (by kernel_rfl) (by kernel_rfl) rfl ?_
          refine Flow.pass_old (X := .int .i64 (S : Int)) 9 (Flow.met_none rfl) (.inl rfl) (by kernel_rfl) (by kernel_rfl) rfl ?_
          refine Flow.pass_val (.int .i64 (64 + (S : Int))) (Flow.met_none rfl) (fun a W hH => ?_) ?_
          · have e0 := Flow.see_new 52 4 hH.sees (by kernel_rfl) (by kernel_rfl) rfl rfl
            go_simp; first | done | rfl | (rw [IntWalk.i64_in _ (by omega)]; first | done | rfl | omega | (simp; done))
          refine Flow.pass_gen (fun v W => ∃ A k, v = .slice A (S) k ∧ W.ownsRow (w.heap.size + 2) 5 1 (.slice A (S) k) (S) (bcells ((l.drop 64).take S))) (Flow.kept_of (fun _ _ _ c ⟨A, k, h1, h2⟩ => ⟨A, k, h1, own_chg h2 c (fun _ _ => id)⟩) (Flow.kz_cons (fun _ => fun _ _ _ c ⟨A, k, h1, h2⟩ => ⟨A, k, h1, own_chg h2 c (fun k hk e => by have := (h2.lt k hk).1; have e2 : k = w.heap.size + 1 := e; omega)⟩) Flow.kz_nil)) (Flow.met_none rfl) (fun a W hH => ?_) ?_
          · have e0 := Flow.see_new 51 3 hH.sees (by kernel_rfl) (by kernel_rfl) rfl rfl
            have e1 := Flow.see_new 53 5 hH.sees (by kernel_rfl) (by kernel_rfl) rfl rfl
            have fa2 : (fun W => Blk W w.heap.size 27 (#[.slice (some ⟨b, off, none⟩) n c])) W := hH.fact _ (List.mem_of_getElem? (i := 2) rfl) rfl
            refine Flow.wp_callF rfl e0 Try.func63 rfl (by kernel_rfl) (by simp [Act.eval, e1]) (split1' w.heap.size b off n c hc l (64) (64 + (S : Int)) (64) (64 + S) (by omega) (by omega) (by omega) (by omega) hn W fa2 ((hR3.below hH.below).more (Nat.le_trans B3.size hH.below.size))) ?_
            rintro e w' ⟨A9, c9, rfl, hO, hB⟩
            have hw2 : w.heap.size + 2 ≤ W.heap.size := Nat.le_trans hN3 hH.below.size
            rw [show 64 + S - 64 = S by omega] at hO ⊢
            exact ⟨_, rfl, Chg.of_ext hB, A9, c9, rfl, own_baseI hO hw2⟩
          refine Flow.pass_old (X := .func (.func 63) #[] #[.pointer (some ⟨w.heap.size, 0, none⟩)]) 11 (Flow.met_none rfl) (.inl rfl) (by kernel_rfl) (by kernel_rfl) rfl ?_
          refine Flow.pass_old (X := .int .i64 (S : Int)) 9 (Flow.met_none rfl) (.inl rfl) (by kernel_rfl) (by kernel_rfl) rfl ?_
          refine Flow.pass_val (.int .i64 (64 + (S : Int))) (Flow.met_none rfl) (fun a W hH => ?_) ?_
          · have e0 := Flow.see_new 56 8 hH.sees (by kernel_rfl) (by kernel_rfl) rfl rfl
            go_simp; first | done | rfl | (rw [IntWalk.i64_in _ (by omega)]; first | done | rfl | omega | (simp; done))
          refine Flow.pass_val (.slice (some ⟨b, off, none⟩) n c) (Flow.met_none rfl) (fun a W hH => ?_) ?_
          · have e0 := Flow.see_old 2 hH.sees (by kernel_rfl) (by kernel_rfl) rfl
            have fa3 : (fun W => Blk W w.heap.size 27 (#[.slice (some ⟨b, off, none⟩) n c])) W := hH.fact _ (List.mem_of_getElem? (i := 3) rfl) rfl
            have cc : World.cell? W ⟨w.heap.size, 0, none⟩ = some (.slice (some ⟨b, off, none⟩) n c) := (fa3.cell 0).trans rfl; go_simp
          refine Flow.pass_val (.int .i64 (n : Int)) (Flow.met_none rfl) (fun a W hH => ?_) ?_
          · have e0 := Flow.see_new 58 10 hH.sees (by kernel_rfl) (by kernel_rfl) rfl rfl
            go_simp; first | done | rfl
          refine Flow.pass_gen (fun v W => ∃ A k, v = .slice A (n - (64 + S)) k ∧ W.ownsRow (w.heap.size + 2) 5 1 (.slice A (n - (64 + S)) k) (n - (64 + S)) (bcells (l.drop (64 + S)))) (Flow.kept_of (fun _ _ _ c ⟨A, k, h1, h2⟩ => ⟨A, k, h1, own_chg h2 c (fun _ _ => id)⟩) (Flow.kz_cons (fun _ => fun _ _ _ c ⟨A, k, h1, h2⟩ => ⟨A, k, h1, own_chg h2 c (fun k hk e => by have := (h2.lt k hk).1; have e2 : k = w.heap.size + 1 := e; omega)⟩) Flow.kz_nil)) (Flow.met_none rfl) (fun a W hH => ?_) ?_
          · have e0 := Flow.see_new 55 7 hH.sees (by kernel_rfl) (by kernel_rfl) rfl rfl
            have e1 := Flow.see_new 57 9 hH.sees (by kernel_rfl) (by kernel_rfl) rfl rfl
            have e2 := Flow.see_new 59 11 hH.sees (by kernel_rfl) (by kernel_rfl) rfl rfl
            have fa4 : (fun W => Blk W w.heap.size 27 (#[.slice (some ⟨b, off, none⟩) n c])) W := hH.fact _ (List.mem_of_getElem? (i := 4) rfl) rfl
            refine Flow.wp_callF rfl e0 Try.func63 rfl (by kernel_rfl) (by simp [Act.eval, e1, e2]) (split1' w.heap.size b off n c hc l (64 + (S : Int)) ((n : Int)) (64 + S) (n) (by omega) (by omega) (by omega) (by omega) hn W fa4 ((hR3.below hH.below).more (Nat.le_trans B3.size hH.below.size))) ?_
            rintro e w' ⟨A9, c9, rfl, hO, hB⟩
            have hw2 : w.heap.size + 2 ≤ W.heap.size := Nat.le_trans hN3 hH.below.size
            rw [HCC.out] at hO
            exact ⟨_, rfl, Chg.of_ext hB, A9, c9, rfl, own_baseI hO hw2⟩
          refine Flow.pass_list (fun _ W => Blk W (w.heap.size + 1) 55 (hdCells V).toArray) (Flow.kept_of (fun _ _ _ c h => h.chg c id) (Flow.kz_cons (Flow.no_follow (by kernel_rfl)) Flow.kz_nil)) (Flow.met_none rfl) (fun a W hH => ?_) ?_
          · have e0 := Flow.see_old 4 hH.sees (by kernel_rfl) (by kernel_rfl) rfl
            have e1 := Flow.see_new 48 0 hH.sees (by kernel_rfl) (by kernel_rfl) rfl rfl
            have fa5 : (fun W => Blk W (w.heap.size + 1) 55 ((hdCells V).toArray)) W := hH.fact _ (List.mem_of_getElem? (i := 5) rfl) rfl
            refine wpList_storeAll W rfl 55 _ _ rfl (w.heap.size + 1) 55 _ (hdCells V).toArray fa5 (by simpa [Act.eval] using e0) (by simpa [Act.eval] using e1) rfl (by rw [hV35.out]; exact inf_hd) (hdCells_one V) ?_
            intro W2 h2 hg _
            exact Flow.qq_nil ⟨_, rfl, Chg.grown hg (by rintro k h; cases h; rfl), h2⟩
          refine Flow.pass_copy 50 2 (Flow.met_none rfl) (.inr rfl) (by kernel_rfl) (by kernel_rfl) rfl rfl (Flow.kept_of (fun _ _ _ c ⟨A, k, h1, h2⟩ => ⟨A, k, h1, own_chg h2 c (fun _ _ => id)⟩) (Flow.kz_cons (Flow.no_follow (by kernel_rfl)) Flow.kz_nil)) ?_
          refine Flow.pass_copy 54 6 (Flow.met_none rfl) (.inr rfl) (by kernel_rfl) (by kernel_rfl) rfl rfl (Flow.kept_of (fun _ _ _ c ⟨A, k, h1, h2⟩ => ⟨A, k, h1, own_chg h2 c (fun _ _ => id)⟩) (Flow.kz_cons (Flow.no_follow (by kernel_rfl)) Flow.kz_nil)) ?_
          refine Flow.pass_copy 60 12 (Flow.met_none rfl) (.inr rfl) (by kernel_rfl) (by kernel_rfl) rfl rfl (Flow.kept_of (fun _ _ _ c ⟨A, k, h1, h2⟩ => ⟨A, k, h1, own_chg h2 c (fun _ _ => id)⟩) (Flow.kz_cons (Flow.no_follow (by kernel_rfl)) Flow.kz_nil)) ?_
          apply Flow.pass_val (hm := (Flow.met_none rfl))
          · intro a W hH
            go_simp; first | done | rfl
          refine Flow.pass_end [none, none, none, none, none, some 5, some 6, some 7, some 8, none, none, none, none, none, none, none, none, none, none, none, none, none, none, none, none, none, none, none, none, none, none, none, none, none, none, none, none, none, none, none, none, none, none, none, none, none, none, none, some 48, some 49, some 50, some 51, some 52, some 53, some 54, some 55, some 56, some 57, some 58, some 59, some 60] (by kernel_rfl) ?_
          intro f gg w9 hB hfa hT hfg
          obtain ⟨A5, k5, h5, g5⟩ := hT 14 _ (by kernel_rfl) rfl
          rw [← hfg 5 14 (by kernel_rfl)] at h5
          obtain ⟨A6, k6, h6, g6⟩ := hT 15 _ (by kernel_rfl) rfl
          rw [← hfg 6 15 (by kernel_rfl)] at h6
          obtain ⟨A7, k7, h7, g7⟩ := hT 16 _ (by kernel_rfl) rfl
          rw [← hfg 7 16 (by kernel_rfl)] at h7
          have h8 : f 8 = _ := (hfg 8 17 (by kernel_rfl)).trans (hT 17 _ (by kernel_rfl) rfl)
          have hb9 : Blk w9 (w.heap.size + 1) 55 (hdCells V).toArray := hT 13 _ (by kernel_rfl) rfl
          have B9 := B3.drew.trans hB
          simp only [Reg.sel, h5, h6, h7, h8]
          clear hT hfg hfa hB h5 h6 h7 h8
          go_wp2
          refine bodyPost_ret (results_cell_tmp4 rfl _ _ (w.heap.size + 1) _ _ _ _ rfl hb9 Try.underlying55 rfl (by rw [hV35.out]; exact inf_hd)) rfl ?_
          have e1 : splA l o = l.take 64 := by rw [splA, if_pos hgd.out]
          have e2 : splB l o = (l.drop 64).take S := by rw [splB, if_pos hgd.out, HS.out]
          have e3 : splC l o = l.drop (64 + S) := by rw [splC, if_pos hgd.out, HS.out]
          have e4 : splHd l o = V := by rw [splHd, if_pos hgd.out, HV.out]
          have e5 : splErr l o = 0 := by rw [splErr, if_pos hgd.out]
          have l1 : (l.take 64).length = 64 := by rw [List.length_take]; have := HL.out; omega
          have l2 : ((l.drop 64).take S).length = S := by rw [List.length_take, List.length_drop]; have := HL.out; omega
          have l3 : (l.drop (64 + S)).length = n - (64 + S) := by rw [List.length_drop]; have := HL.out; omega
          unfold SplRet
          rw [e1, e2, e3, e4, e5, l1, l2, l3]
          exact ⟨_, _, _, _, _, _, rfl, Rd.of_own g5, Rd.of_own g6, Rd.of_own g7, B9⟩
        · have hgf : Hid (splGood l o = false) := Lib.hid (by
            have h1 := HS.out; have h2 := HL.out; have h3 := HV.out
            have : ¬ (l.length - 64 - sigSize o = (hdVal (l.take 64)).size) := by rw [← h1, ← h2, ← h3]; exact hsz
            simp [splGood, this])
          have hne : ((((n - 64 - S : Nat) : Int)) != (V.size : Int)) = true := by simp; omega
          go_wp2_with (first
            | ((with_reducible refine at_store 55 ?_); refine wpList_storeAll W2 rfl 55 _ _ rfl (w.heap.size + 1) 55 _ (hdCells V).toArray hbH2 rfl rfl (by rw [hV35.out, h35.out]) (by rw [hV35.out]; exact inf_hd) (hdCells_one V) ?_; intro W3 hb3 hg3 hs3; obtain ⟨B3, hbX3⟩ := st W3 hb3 hg3; clear st hg3 hs3; have c3 : W3.cell? ⟨w.heap.size, 0, none⟩ = some (.slice A n c) := (hbX3.cell 0).trans rfl; have c4 : W3.cell? ⟨w.heap.size + 1, 1, none⟩ = some (.int .u32 (V.size : Int)) := (hb3.cell 1).trans rfl)
            | ((with_reducible refine at_store 55 ?_); refine wpList_storeAll _ rfl 55 _ _ rfl (w.heap.size + 1) 55 _ (hdCells zhd).toArray hb3 rfl rfl (by rw [hV35.out, h35.out]) (by rw [h35.out]; exact inf_hd) (hdCells_one zhd) ?_; intro w8 hb8 hg8 hs8))
          refine bodyPost_ret (results_cell_tmp4 rfl _ _ (w.heap.size + 1) _ _ _ _ rfl hb8 Try.underlying55 rfl (by rw [h35.out]; exact inf_hd)) rfl ?_
          exact SplRet.bad hgf.out hko.out (grown_below B3 hg8 B3.size (by omega))
end Go.Proofs.Ytnjfghlgknnhmaa
