/-
  Walks: slices.siftDownOrdered, heapSortOrdered at uint64.
-/
import Derived.Test.YtjfmgoickokbjaaSrtB
namespace Go.Proofs.Ytjfmgoickokbjaa
open Go.RowKit

theorem sift_stop {hi first root : Nat} {d : Array Nat} (h : ¬ 2 * root + 1 < hi) : Sort.siftDown ltN hi first root d = d := by rw [Sort.siftDown, dif_pos (by omega)]
theorem sift_pick {hi first root c : Nat} {d : Array Nat} (h : 2 * root + 1 < hi) (hc : c = if (decide (2 * root + 1 + 1 < hi) && ltN d[first + (2 * root + 1)]! d[first + (2 * root + 1) + 1]!) then 2 * root + 1 + 1 else 2 * root + 1) :
    Sort.siftDown ltN hi first root d = if ltN d[first + root]! d[first + c]! then Sort.siftDown ltN hi first c (Sort.swp d (first + root) (first + c)) else d := by
  rw [Sort.siftDown, dif_neg (by omega)]
  by_cases h1 : (decide (2 * root + 1 + 1 < hi) && ltN d[first + (2 * root + 1)]! d[first + (2 * root + 1) + 1]!) = true
  · rw [if_pos h1] at hc
    rw [if_pos h1]
    have h2 : 2 * root + 2 < hi := by simp only [Bool.and_eq_true, decide_eq_true_eq] at h1; exact h1.1
    have e : c = 2 * root + 2 := by omega
    subst e
    cases hq : ltN d[first + root]! d[first + (2 * root + 2)]! with
    | true => simp [h2]
    | false => simp
  · rw [if_neg h1] at hc
    rw [if_neg h1]
    subst hc
    cases hq : ltN d[first + root]! d[first + (2 * root + 1)]! with
    | true => simp
    | false => simp

set_option maxRecDepth 100000 in
set_option maxHeartbeats 2000000 in
theorem siftDown_walk (g : Nat) (R : List Value) (d : Array Nat) (n cap lo hi first : Nat) (hn : d.size = n) (hf : first + hi ≤ n) (hlo : lo ≤ n) (hn5 : n ≤ 1000000) (w : World) (hN : NR w g d R) :
    Calls Try.prog 82 #[.slice (some ⟨g, 0, none⟩) n cap, .int .i64 (lo : Int), .int .i64 (hi : Int), .int .i64 (first : Int)] w (SRet w g R fun d' => d' = Sort.siftDown ltN hi first lo d) := by
  obtain ⟨RES, hRES⟩ : ∃ X, Sort.siftDown ltN hi first lo d = X := ⟨_, rfl⟩
  rw [hRES]
  have h0 := Lib.hid hRES
  clear hRES
  go_enter Try.func82, Try.ntmps82
  go_wp2
  go_loopw [8] (fun r wr => ∃ (root : Nat) (d1 : Array Nat), r = .int .i64 (root : Int) ∧ root ≤ n ∧ Hid (Sort.siftDown ltN hi first root d1 = RES) ∧ d1.size = n ∧ NR wr g d1 R ∧ Chg (OnlyG g) w wr) (fun r _ => n + 1 - (intOf r).toNat)
  case atStart => exact ⟨lo, d, rfl, hlo, h0, hn, hN, Chg.refl _ _⟩
  case round =>
    obtain ⟨root, d1, rfl, hr, hI, hn1, hN_wr, hC_wr⟩ := hrel
    obtain ⟨c1, hc1⟩ : ∃ c, 2 * root + 1 = c := ⟨_, rfl⟩
    have hw1 : IntKind.i64.wrap (2 * (root : Int) + 1) = (c1 : Int) := by rw [IntWalk.i64_in _ (by omega)]; omega
    have hw0 : IntKind.i64.wrap (2 * (root : Int)) = 2 * (root : Int) := IntWalk.i64_in _ (by omega)
    have HC1 := Lib.hid hc1
    by_cases hge : c1 < hi
    · have hge2 : 2 * root + 1 < hi := by omega
      have hgi : ¬ (hi : Int) ≤ (c1 : Int) := by omega
      go_upto_region 3 with (fail)
      refine s_cut [none, none, none, none, none, none, none, none, none, none, none, none, none, none, none, none, none, some 17, some 18, some 19, some 20, some 21, some 22, some 23, some 24, some 25, some 26, some 27, some 28, some 29, some 30, some 31, some 32, some 33, some 34, some 35, some 36, none, none, none, none, none, none, none, none, none, none, none, none, none, none, none, none, none, none, none, none, none, none, none, none, none, none, none, none, none, none, none, none, none, none, none, none, none, none, none] (fun f W => f 36 = .bool (decide (c1 + 1 < hi) && ltN d1[first + c1]! d1[first + c1 + 1]!) ∧ Below wr.heap.size wr W) (fun Q1 hQ1 => ?_) ?_
      · by_cases hg : c1 + 1 < hi
        · skip
          refine Flow.wp_region_flow (wr.heap.size) [] [] (by kernel_rfl) (by kernel_rfl) (Nat.le_refl _) (fun _ h => by cases h) Flow.facts_nil ?_
          refine Flow.pass_old (X := .int .i64 ((c1 : Int))) 9 (Flow.met_none rfl) (.inl rfl) (by kernel_rfl) (by kernel_rfl) rfl ?_
          refine Flow.pass_val (.int .i64 ((c1 : Int) + 1)) (Flow.met_none rfl) (fun a W hH => ?_) ?_
          · have e0 := Flow.see_new 17 0 hH.sees (by kernel_rfl) (by kernel_rfl) rfl rfl
            go_simp; first | done | rfl | (rw [IntWalk.i64_in _ (by omega)]; first | done | rfl | omega | (simp; done))
          refine Flow.pass_old (X := .int .i64 ((hi : Int))) 2 (Flow.met_none rfl) (.inl rfl) (by kernel_rfl) (by kernel_rfl) rfl ?_
          refine Flow.pass_val (.bool true) (Flow.met_none rfl) (fun a W hH => ?_) ?_
          · have e0 := Flow.see_new 18 1 hH.sees (by kernel_rfl) (by kernel_rfl) rfl rfl
            have e1 := Flow.see_new 19 2 hH.sees (by kernel_rfl) (by kernel_rfl) rfl rfl
            go_simp; first | done | rfl | omega | (simp; done) | (simp; omega) | exact decide_eq_true (by omega) | exact decide_eq_false (by omega)
          refine Flow.pass_copy 20 3 (Flow.met_none rfl) (.inl rfl) (by kernel_rfl) (by kernel_rfl) rfl rfl (fun _ _ => Flow.kept_eqs _ _) ?_
          refine Flow.pass_old (X := .slice (some ⟨g, 0, none⟩) n cap) 0 (Flow.met_some 4 true 21 rfl rfl (by kernel_rfl) (by kernel_rfl) rfl rfl) (.inl rfl) (by kernel_rfl) (by kernel_rfl) rfl ?_
          refine Flow.pass_old (X := .int .i64 ((first : Int))) 3 (Flow.met_some 4 true 21 rfl rfl (by kernel_rfl) (by kernel_rfl) rfl rfl) (.inl rfl) (by kernel_rfl) (by kernel_rfl) rfl ?_
          refine Flow.pass_old (X := .int .i64 ((c1 : Int))) 9 (Flow.met_some 4 true 21 rfl rfl (by kernel_rfl) (by kernel_rfl) rfl rfl) (.inl rfl) (by kernel_rfl) (by kernel_rfl) rfl ?_
          refine Flow.pass_val (.int .i64 ((first : Int) + (c1 : Int))) (Flow.met_some 4 true 21 rfl rfl (by kernel_rfl) (by kernel_rfl) rfl rfl) (fun a W hH => ?_) ?_
          · have e0 := Flow.see_new 23 6 hH.sees (by kernel_rfl) (by kernel_rfl) rfl rfl
            have e1 := Flow.see_new 24 7 hH.sees (by kernel_rfl) (by kernel_rfl) rfl rfl
            go_simp; first | done | rfl | (rw [IntWalk.i64_in _ (by omega)]; first | done | rfl | omega | (simp; done))
          refine Flow.pass_val (.pointer (some ⟨g, (first + c1), none⟩)) (Flow.met_some 4 true 21 rfl rfl (by kernel_rfl) (by kernel_rfl) rfl rfl) (fun a W hH => ?_) ?_
          · have e0 := Flow.see_new 22 5 hH.sees (by kernel_rfl) (by kernel_rfl) rfl rfl
            have e1 := Flow.see_new 25 8 hH.sees (by kernel_rfl) (by kernel_rfl) rfl rfl
            exact s_ixS (s := 1) ((first + c1)) _ rfl Try.underlying72 (by kernel_rfl) (by first | exact e0 | simpa [Act.eval] using e0 | (simp [Act.eval])) (by first | exact e1 | simpa [Act.eval] using e1 | (simp [Act.eval])) (by omega) (by omega) (by omega)
          refine Flow.pass_val (.int .u64 ((d1[(first + c1)]! : Nat) : Int)) (Flow.met_some 4 true 21 rfl rfl (by kernel_rfl) (by kernel_rfl) rfl rfl) (fun a W hH => ?_) ?_
          · have e0 := Flow.see_new 26 9 hH.sees (by kernel_rfl) (by kernel_rfl) rfl rfl
            have cc := nr_cell (hN_wr.below ((Below.refl wr.heap.size wr).drew.trans hH.below) hN_wr.lt) ((first + c1)) (by omega); go_simp; first | done | rfl
          refine Flow.pass_old (X := .slice (some ⟨g, 0, none⟩) n cap) 0 (Flow.met_some 4 true 21 rfl rfl (by kernel_rfl) (by kernel_rfl) rfl rfl) (.inl rfl) (by kernel_rfl) (by kernel_rfl) rfl ?_
          refine Flow.pass_old (X := .int .i64 ((first : Int))) 3 (Flow.met_some 4 true 21 rfl rfl (by kernel_rfl) (by kernel_rfl) rfl rfl) (.inl rfl) (by kernel_rfl) (by kernel_rfl) rfl ?_
          refine Flow.pass_old (X := .int .i64 ((c1 : Int))) 9 (Flow.met_some 4 true 21 rfl rfl (by kernel_rfl) (by kernel_rfl) rfl rfl) (.inl rfl) (by kernel_rfl) (by kernel_rfl) rfl ?_
          refine Flow.pass_val (.int .i64 ((first : Int) + (c1 : Int))) (Flow.met_some 4 true 21 rfl rfl (by kernel_rfl) (by kernel_rfl) rfl rfl) (fun a W hH => ?_) ?_
          · have e0 := Flow.see_new 29 12 hH.sees (by kernel_rfl) (by kernel_rfl) rfl rfl
            have e1 := Flow.see_new 30 13 hH.sees (by kernel_rfl) (by kernel_rfl) rfl rfl
            go_simp; first | done | rfl | (rw [IntWalk.i64_in _ (by omega)]; first | done | rfl | omega | (simp; done))
          refine Flow.pass_val (.int .i64 (((first : Int) + (c1 : Int)) + 1)) (Flow.met_some 4 true 21 rfl rfl (by kernel_rfl) (by kernel_rfl) rfl rfl) (fun a W hH => ?_) ?_
          · have e0 := Flow.see_new 31 14 hH.sees (by kernel_rfl) (by kernel_rfl) rfl rfl
            go_simp; first | done | rfl | (rw [IntWalk.i64_in _ (by omega)]; first | done | rfl | omega | (simp; done))
          refine Flow.pass_val (.pointer (some ⟨g, ((first + c1) + 1), none⟩)) (Flow.met_some 4 true 21 rfl rfl (by kernel_rfl) (by kernel_rfl) rfl rfl) (fun a W hH => ?_) ?_
          · have e0 := Flow.see_new 28 11 hH.sees (by kernel_rfl) (by kernel_rfl) rfl rfl
            have e1 := Flow.see_new 32 15 hH.sees (by kernel_rfl) (by kernel_rfl) rfl rfl
            exact s_ixS (s := 1) (((first + c1) + 1)) _ rfl Try.underlying72 (by kernel_rfl) (by first | exact e0 | simpa [Act.eval] using e0 | (simp [Act.eval])) (by first | exact e1 | simpa [Act.eval] using e1 | (simp [Act.eval])) (by omega) (by omega) (by omega)
          refine Flow.pass_val (.int .u64 ((d1[((first + c1) + 1)]! : Nat) : Int)) (Flow.met_some 4 true 21 rfl rfl (by kernel_rfl) (by kernel_rfl) rfl rfl) (fun a W hH => ?_) ?_
          · have e0 := Flow.see_new 33 16 hH.sees (by kernel_rfl) (by kernel_rfl) rfl rfl
            have cc := nr_cell (hN_wr.below ((Below.refl wr.heap.size wr).drew.trans hH.below) hN_wr.lt) (((first + c1) + 1)) (by omega); go_simp; first | done | rfl
          refine Flow.pass_step (Reg.eqs (.bool (ltN (d1[(first + c1)]!) (d1[((first + c1) + 1)]!)))) (fun _ _ => Flow.kept_eqs _ _) (Flow.met_some 4 true 21 rfl rfl (by kernel_rfl) (by kernel_rfl) rfl rfl) (fun a W hH => ?_) ?_
          · have e0 := Flow.see_new 27 10 hH.sees (by kernel_rfl) (by kernel_rfl) rfl rfl
            have e1 := Flow.see_new 34 17 hH.sees (by kernel_rfl) (by kernel_rfl) rfl rfl
            refine Reg.wp_call rfl Try.func77 rfl (by kernel_rfl) (by simp [Act.eval, e0, e1]) (lessN (d1[(first + c1)]!) (d1[((first + c1) + 1)]!) W) ?_
            rintro e w' ⟨rfl, rfl⟩
            exact ⟨_, rfl, _, rfl, Ext.refl _, rfl⟩
          refine Flow.pass_val (.bool (ltN (d1[(first + c1)]!) (d1[((first + c1) + 1)]!))) (Flow.met_none rfl) (fun a W hH => ?_) ?_
          · have e0 := Flow.see_new 21 4 hH.sees (by kernel_rfl) (by kernel_rfl) rfl rfl
            have e1 := Flow.see_new 35 18 hH.sees (by kernel_rfl) (by kernel_rfl) rfl rfl
            go_simp; first | done | rfl
          refine Flow.pass_end [none, none, none, none, none, none, none, none, none, none, none, none, none, none, none, none, none, some 17, some 18, some 19, some 20, some 21, some 22, some 23, some 24, some 25, some 26, some 27, some 28, some 29, some 30, some 31, some 32, some 33, some 34, some 35, some 36, none, none, none, none, none, none, none, none, none, none, none, none, none, none, none, none, none, none, none, none, none, none, none, none, none, none, none, none, none, none, none, none, none, none, none, none, none, none, none] (by kernel_rfl) ?_
          intro f gg w9 hB hfa hT hfg
          have h36 : f 36 = _ := (hfg 36 19 (by kernel_rfl)).trans (hT 19 _ (by kernel_rfl) rfl)
          exact hQ1 f w9 ⟨by rw [h36, decide_eq_true hg, Bool.true_and], (Below.refl wr.heap.size wr).drew.trans hB⟩
        · skip
          refine Flow.wp_region_flow (wr.heap.size) [] [] (by kernel_rfl) (by kernel_rfl) (Nat.le_refl _) (fun _ h => by cases h) Flow.facts_nil ?_
          refine Flow.pass_old (X := .int .i64 ((c1 : Int))) 9 (Flow.met_none rfl) (.inl rfl) (by kernel_rfl) (by kernel_rfl) rfl ?_
          refine Flow.pass_val (.int .i64 ((c1 : Int) + 1)) (Flow.met_none rfl) (fun a W hH => ?_) ?_
          · have e0 := Flow.see_new 17 0 hH.sees (by kernel_rfl) (by kernel_rfl) rfl rfl
            go_simp; first | done | rfl | (rw [IntWalk.i64_in _ (by omega)]; first | done | rfl | omega | (simp; done))
          refine Flow.pass_old (X := .int .i64 ((hi : Int))) 2 (Flow.met_none rfl) (.inl rfl) (by kernel_rfl) (by kernel_rfl) rfl ?_
          refine Flow.pass_val (.bool false) (Flow.met_none rfl) (fun a W hH => ?_) ?_
          · have e0 := Flow.see_new 18 1 hH.sees (by kernel_rfl) (by kernel_rfl) rfl rfl
            have e1 := Flow.see_new 19 2 hH.sees (by kernel_rfl) (by kernel_rfl) rfl rfl
            go_simp; first | done | rfl | omega | (simp; done) | (simp; omega) | exact decide_eq_true (by omega) | exact decide_eq_false (by omega)
          refine Flow.pass_copy 20 3 (Flow.met_none rfl) (.inl rfl) (by kernel_rfl) (by kernel_rfl) rfl rfl (fun _ _ => Flow.kept_eqs _ _) ?_
          refine Flow.pass_skip (fun a W hH => Flow.not_wanted 4 true 21 hH rfl rfl (by kernel_rfl) (by kernel_rfl) rfl rfl) ?_
          refine Flow.pass_skip (fun a W hH => Flow.not_wanted 4 true 21 hH rfl rfl (by kernel_rfl) (by kernel_rfl) rfl rfl) ?_
          refine Flow.pass_skip (fun a W hH => Flow.not_wanted 4 true 21 hH rfl rfl (by kernel_rfl) (by kernel_rfl) rfl rfl) ?_
          refine Flow.pass_skip (fun a W hH => Flow.not_wanted 4 true 21 hH rfl rfl (by kernel_rfl) (by kernel_rfl) rfl rfl) ?_
          refine Flow.pass_skip (fun a W hH => Flow.not_wanted 4 true 21 hH rfl rfl (by kernel_rfl) (by kernel_rfl) rfl rfl) ?_
          refine Flow.pass_skip (fun a W hH => Flow.not_wanted 4 true 21 hH rfl rfl (by kernel_rfl) (by kernel_rfl) rfl rfl) ?_
          refine Flow.pass_skip (fun a W hH => Flow.not_wanted 4 true 21 hH rfl rfl (by kernel_rfl) (by kernel_rfl) rfl rfl) ?_
          refine Flow.pass_skip (fun a W hH => Flow.not_wanted 4 true 21 hH rfl rfl (by kernel_rfl) (by kernel_rfl) rfl rfl) ?_
          refine Flow.pass_skip (fun a W hH => Flow.not_wanted 4 true 21 hH rfl rfl (by kernel_rfl) (by kernel_rfl) rfl rfl) ?_
          refine Flow.pass_skip (fun a W hH => Flow.not_wanted 4 true 21 hH rfl rfl (by kernel_rfl) (by kernel_rfl) rfl rfl) ?_
          refine Flow.pass_skip (fun a W hH => Flow.not_wanted 4 true 21 hH rfl rfl (by kernel_rfl) (by kernel_rfl) rfl rfl) ?_
          refine Flow.pass_skip (fun a W hH => Flow.not_wanted 4 true 21 hH rfl rfl (by kernel_rfl) (by kernel_rfl) rfl rfl) ?_
          refine Flow.pass_skip (fun a W hH => Flow.not_wanted 4 true 21 hH rfl rfl (by kernel_rfl) (by kernel_rfl) rfl rfl) ?_
          refine Flow.pass_skip (fun a W hH => Flow.not_wanted 4 true 21 hH rfl rfl (by kernel_rfl) (by kernel_rfl) rfl rfl) ?_
          refine Flow.pass_val (.bool false) (Flow.met_none rfl) (fun a W hH => ?_) ?_
          · have e0 := Flow.see_new 21 4 hH.sees (by kernel_rfl) (by kernel_rfl) rfl rfl
            have e1 := Flow.see_new 35 18 hH.sees (by kernel_rfl) (by kernel_rfl) rfl rfl
            go_simp; first | done | rfl
          refine Flow.pass_end [none, none, none, none, none, none, none, none, none, none, none, none, none, none, none, none, none, some 17, some 18, some 19, some 20, some 21, some 22, some 23, some 24, some 25, some 26, some 27, some 28, some 29, some 30, some 31, some 32, some 33, some 34, some 35, some 36, none, none, none, none, none, none, none, none, none, none, none, none, none, none, none, none, none, none, none, none, none, none, none, none, none, none, none, none, none, none, none, none, none, none, none, none, none, none, none] (by kernel_rfl) ?_
          intro f gg w9 hB hfa hT hfg
          have h36 : f 36 = _ := (hfg 36 19 (by kernel_rfl)).trans (hT 19 _ (by kernel_rfl) rfl)
          exact hQ1 f w9 ⟨by rw [h36, decide_eq_false hg, Bool.false_and], (Below.refl wr.heap.size wr).drew.trans hB⟩
      intro f W4 ⟨h36, hBW4⟩
      simp only [Reg.sel, h36]
      have hN_W4 := Blk.below hN_wr hBW4 (Blk.lt hN_wr)
      have hC_W4 := hC_wr.trans (Chg.of_ext hBW4)
      clear h36 hBW4
      cases hT : (decide (c1 + 1 < hi) && ltN d1[first + c1]! d1[first + c1 + 1]!) with
      | true =>
        have hlt1 : c1 + 1 < hi := by simp only [Bool.and_eq_true, decide_eq_true_eq] at hT; exact hT.1
        rw [← HC1.out] at hT
        have hT := Lib.hid hT
        obtain ⟨c, hc⟩ : ∃ c, c1 + 1 = c := ⟨_, rfl⟩
        have hcw : IntKind.i64.wrap ((c1 : Int) + 1) = (c : Int) := by rw [IntWalk.i64_in _ (by omega)]; omega
        have hpick := sift_pick (first := first) (d := d1) hge2 (c := c) (by rw [hT.out]; show _ = 2 * root + 1 + 1; omega)
        have hch : c < hi := by omega
        have hcr : root < c := by omega
        have hpick := Lib.hid hpick
        clear hT
        go_wp2_with fail
        refine s_cut [none, none, none, none, none, none, none, none, none, none, none, none, none, none, none, none, none, none, none, none, none, none, none, none, none, none, none, none, none, none, none, none, none, none, none, none, none, none, none, some 39, some 40, some 41, some 42, some 43, some 44, some 45, some 46, some 47, some 48, some 49, some 50, some 51, some 52, none, none, none, none, none, none, none, none, none, none, none, none, none, none, none, none, none, none, none, none, none, none, none] (fun f W => f 52 = .bool (!ltN d1[first + root]! d1[first + c]!) ∧ Below W4.heap.size W4 W) (fun Q1 hQ1 => ?_) ?_
        · skip
          refine Flow.wp_region_flow (W4.heap.size) [] [] (by kernel_rfl) (by kernel_rfl) (Nat.le_refl _) (fun _ h => by cases h) Flow.facts_nil ?_
          refine Flow.pass_old (X := .slice (some ⟨g, 0, none⟩) n cap) 0 (Flow.met_none rfl) (.inl rfl) (by kernel_rfl) (by kernel_rfl) rfl ?_
          refine Flow.pass_old (X := .int .i64 ((first : Int))) 3 (Flow.met_none rfl) (.inl rfl) (by kernel_rfl) (by kernel_rfl) rfl ?_
          refine Flow.pass_old (X := .int .i64 ((root : Int))) 8 (Flow.met_none rfl) (.inl rfl) (by kernel_rfl) (by kernel_rfl) rfl ?_
          refine Flow.pass_val (.int .i64 ((first : Int) + (root : Int))) (Flow.met_none rfl) (fun a W hH => ?_) ?_
          · have e0 := Flow.see_new 40 1 hH.sees (by kernel_rfl) (by kernel_rfl) rfl rfl
            have e1 := Flow.see_new 41 2 hH.sees (by kernel_rfl) (by kernel_rfl) rfl rfl
            go_simp; first | done | rfl | (rw [IntWalk.i64_in _ (by omega)]; first | done | rfl | omega | (simp; done))
          refine Flow.pass_val (.pointer (some ⟨g, (first + root), none⟩)) (Flow.met_none rfl) (fun a W hH => ?_) ?_
          · have e0 := Flow.see_new 39 0 hH.sees (by kernel_rfl) (by kernel_rfl) rfl rfl
            have e1 := Flow.see_new 42 3 hH.sees (by kernel_rfl) (by kernel_rfl) rfl rfl
            exact s_ixS (s := 1) ((first + root)) _ rfl Try.underlying72 (by kernel_rfl) (by first | exact e0 | simpa [Act.eval] using e0 | (simp [Act.eval])) (by first | exact e1 | simpa [Act.eval] using e1 | (simp [Act.eval])) (by omega) (by omega) (by omega)
          refine Flow.pass_val (.int .u64 ((d1[(first + root)]! : Nat) : Int)) (Flow.met_none rfl) (fun a W hH => ?_) ?_
          · have e0 := Flow.see_new 43 4 hH.sees (by kernel_rfl) (by kernel_rfl) rfl rfl
            have cc := nr_cell (hN_W4.below ((Below.refl W4.heap.size W4).drew.trans hH.below) hN_W4.lt) ((first + root)) (by omega); go_simp; first | done | rfl
          refine Flow.pass_old (X := .slice (some ⟨g, 0, none⟩) n cap) 0 (Flow.met_none rfl) (.inl rfl) (by kernel_rfl) (by kernel_rfl) rfl ?_
          refine Flow.pass_old (X := .int .i64 ((first : Int))) 3 (Flow.met_none rfl) (.inl rfl) (by kernel_rfl) (by kernel_rfl) rfl ?_
          refine Flow.pass_old (X := .int .i64 ((c : Int))) 9 (Flow.met_none rfl) (.inl rfl) (by kernel_rfl) (by kernel_rfl) rfl ?_
          refine Flow.pass_val (.int .i64 ((first : Int) + (c : Int))) (Flow.met_none rfl) (fun a W hH => ?_) ?_
          · have e0 := Flow.see_new 46 7 hH.sees (by kernel_rfl) (by kernel_rfl) rfl rfl
            have e1 := Flow.see_new 47 8 hH.sees (by kernel_rfl) (by kernel_rfl) rfl rfl
            go_simp; first | done | rfl | (rw [IntWalk.i64_in _ (by omega)]; first | done | rfl | omega | (simp; done))
          refine Flow.pass_val (.pointer (some ⟨g, (first + c), none⟩)) (Flow.met_none rfl) (fun a W hH => ?_) ?_
          · have e0 := Flow.see_new 45 6 hH.sees (by kernel_rfl) (by kernel_rfl) rfl rfl
            have e1 := Flow.see_new 48 9 hH.sees (by kernel_rfl) (by kernel_rfl) rfl rfl
            exact s_ixS (s := 1) ((first + c)) _ rfl Try.underlying72 (by kernel_rfl) (by first | exact e0 | simpa [Act.eval] using e0 | (simp [Act.eval])) (by first | exact e1 | simpa [Act.eval] using e1 | (simp [Act.eval])) (by omega) (by omega) (by omega)
          refine Flow.pass_val (.int .u64 ((d1[(first + c)]! : Nat) : Int)) (Flow.met_none rfl) (fun a W hH => ?_) ?_
          · have e0 := Flow.see_new 49 10 hH.sees (by kernel_rfl) (by kernel_rfl) rfl rfl
            have cc := nr_cell (hN_W4.below ((Below.refl W4.heap.size W4).drew.trans hH.below) hN_W4.lt) ((first + c)) (by omega); go_simp; first | done | rfl
          refine Flow.pass_step (Reg.eqs (.bool (ltN (d1[(first + root)]!) (d1[(first + c)]!)))) (fun _ _ => Flow.kept_eqs _ _) (Flow.met_none rfl) (fun a W hH => ?_) ?_
          · have e0 := Flow.see_new 44 5 hH.sees (by kernel_rfl) (by kernel_rfl) rfl rfl
            have e1 := Flow.see_new 50 11 hH.sees (by kernel_rfl) (by kernel_rfl) rfl rfl
            refine Reg.wp_call rfl Try.func77 rfl (by kernel_rfl) (by simp [Act.eval, e0, e1]) (lessN (d1[(first + root)]!) (d1[(first + c)]!) W) ?_
            rintro e w' ⟨rfl, rfl⟩
            exact ⟨_, rfl, _, rfl, Ext.refl _, rfl⟩
          refine Flow.pass_val (.bool (!(ltN (d1[(first + root)]!) (d1[(first + c)]!)))) (Flow.met_none rfl) (fun a W hH => ?_) ?_
          · have e0 := Flow.see_new 51 12 hH.sees (by kernel_rfl) (by kernel_rfl) rfl rfl
            go_simp; first | done | rfl
          refine Flow.pass_end [none, none, none, none, none, none, none, none, none, none, none, none, none, none, none, none, none, none, none, none, none, none, none, none, none, none, none, none, none, none, none, none, none, none, none, none, none, none, none, some 39, some 40, some 41, some 42, some 43, some 44, some 45, some 46, some 47, some 48, some 49, some 50, some 51, some 52, none, none, none, none, none, none, none, none, none, none, none, none, none, none, none, none, none, none, none, none, none, none, none] (by kernel_rfl) ?_
          intro f gg w9 hB hfa hT hfg
          have h52 : f 52 = _ := (hfg 52 13 (by kernel_rfl)).trans (hT 13 _ (by kernel_rfl) rfl)
          exact hQ1 f w9 ⟨h52, (Below.refl W4.heap.size W4).drew.trans hB⟩
        intro f W5 ⟨h52, hBW5⟩
        simp only [Reg.sel, h52]
        have hN_W5 := Blk.below hN_W4 hBW5 (Blk.lt hN_W4)
        have hC_W5 := hC_W4.trans (Chg.of_ext hBW5)
        clear h52 hBW5
        cases hL : ltN d1[first + root]! d1[first + c]! with
        | false =>
          have hstop := hpick.out
          rw [hL] at hstop
          have hstop := Lib.hid hstop
          clear hpick hL
          go_wp2
          refine bodyPost_ret (results_none rfl _ _ _) rfl ?_
          exact ⟨rfl, d1, by rw [← hI.out, hstop.out]; rfl, hN_W5, hC_W5⟩
        | true =>
          have hgo := hpick.out
          rw [hL] at hgo
          have hgo := Lib.hid hgo
          clear hpick hL
          go_upto_region 6 with (fail)
          refine Flow.wp_region_flow (g) [(21, fun b => b = g), (23, fun b => b = g)] [(13, fun W => NR W g d1 R), (19, fun W => NR W g d1 R), (21, fun W => NR W g d1 R), (24, fun W => Chg (OnlyG g) W5 W)] (by kernel_rfl) (by kernel_rfl) (Nat.le_of_lt hN_W5.lt) (Flow.nz_cons (by rintro b rfl; exact Nat.le_refl _) (Flow.nz_cons (by rintro b rfl; exact Nat.le_refl _) Flow.nz_nil)) (Flow.facts_cons (hN_W5.drew) (Flow.kept_blk id) (Flow.fz_cons (Flow.no_follow (by kernel_rfl)) (Flow.fz_cons (Flow.no_follow (by kernel_rfl)) Flow.fz_nil)) (Flow.facts_cons (hN_W5.drew) (Flow.kept_blk id) (Flow.fz_cons (Flow.no_follow (by kernel_rfl)) (Flow.fz_cons (Flow.no_follow (by kernel_rfl)) Flow.fz_nil)) (Flow.facts_cons (hN_W5.drew) (Flow.kept_blk id) (Flow.fz_cons (Flow.no_follow (by kernel_rfl)) (Flow.fz_cons (Flow.no_follow (by kernel_rfl)) Flow.fz_nil)) (Flow.facts_cons ((Chg.refl _ _).drew) (fun _ _ c h => onlyg_trans h c (by first | exact fun _ hj => hj | exact fun _ hj => hj.elim)) (Flow.fz_cons (fun _ => fun _ _ c h => onlyg_trans h c (by first | exact fun _ hj => hj | exact fun _ hj => hj.elim)) (Flow.fz_cons (fun _ => fun _ _ c h => onlyg_trans h c (by first | exact fun _ hj => hj | exact fun _ hj => hj.elim)) Flow.fz_nil)) Flow.facts_nil)))) ?_
          refine Flow.pass_old (X := .slice (some ⟨g, 0, none⟩) n cap) 0 (Flow.met_none rfl) (.inl rfl) (by kernel_rfl) (by kernel_rfl) rfl ?_
          refine Flow.pass_old (X := .int .i64 ((first : Int))) 3 (Flow.met_none rfl) (.inl rfl) (by kernel_rfl) (by kernel_rfl) rfl ?_
          refine Flow.pass_old (X := .int .i64 ((root : Int))) 8 (Flow.met_none rfl) (.inl rfl) (by kernel_rfl) (by kernel_rfl) rfl ?_
          refine Flow.pass_val (.int .i64 ((first : Int) + (root : Int))) (Flow.met_none rfl) (fun a W hH => ?_) ?_
          · have e0 := Flow.see_new 54 1 hH.sees (by kernel_rfl) (by kernel_rfl) rfl rfl
            have e1 := Flow.see_new 55 2 hH.sees (by kernel_rfl) (by kernel_rfl) rfl rfl
            go_simp; first | done | rfl | (rw [IntWalk.i64_in _ (by omega)]; first | done | rfl | omega | (simp; done))
          refine Flow.pass_old (X := .slice (some ⟨g, 0, none⟩) n cap) 0 (Flow.met_none rfl) (.inl rfl) (by kernel_rfl) (by kernel_rfl) rfl ?_
          refine Flow.pass_old (X := .int .i64 ((first : Int))) 3 (Flow.met_none rfl) (.inl rfl) (by kernel_rfl) (by kernel_rfl) rfl ?_
          refine Flow.pass_old (X := .int .i64 ((c : Int))) 9 (Flow.met_none rfl) (.inl rfl) (by kernel_rfl) (by kernel_rfl) rfl ?_
          refine Flow.pass_val (.int .i64 ((first : Int) + (c : Int))) (Flow.met_none rfl) (fun a W hH => ?_) ?_
          · have e0 := Flow.see_new 58 5 hH.sees (by kernel_rfl) (by kernel_rfl) rfl rfl
            have e1 := Flow.see_new 59 6 hH.sees (by kernel_rfl) (by kernel_rfl) rfl rfl
            go_simp; first | done | rfl | (rw [IntWalk.i64_in _ (by omega)]; first | done | rfl | omega | (simp; done))
          refine Flow.pass_old (X := .slice (some ⟨g, 0, none⟩) n cap) 0 (Flow.met_none rfl) (.inl rfl) (by kernel_rfl) (by kernel_rfl) rfl ?_
          refine Flow.pass_old (X := .int .i64 ((first : Int))) 3 (Flow.met_none rfl) (.inl rfl) (by kernel_rfl) (by kernel_rfl) rfl ?_
          refine Flow.pass_old (X := .int .i64 ((c : Int))) 9 (Flow.met_none rfl) (.inl rfl) (by kernel_rfl) (by kernel_rfl) rfl ?_
          refine Flow.pass_val (.int .i64 ((first : Int) + (c : Int))) (Flow.met_none rfl) (fun a W hH => ?_) ?_
          · have e0 := Flow.see_new 62 9 hH.sees (by kernel_rfl) (by kernel_rfl) rfl rfl
            have e1 := Flow.see_new 63 10 hH.sees (by kernel_rfl) (by kernel_rfl) rfl rfl
            go_simp; first | done | rfl | (rw [IntWalk.i64_in _ (by omega)]; first | done | rfl | omega | (simp; done))
          refine Flow.pass_val (.pointer (some ⟨g, (first + c), none⟩)) (Flow.met_none rfl) (fun a W hH => ?_) ?_
          · have e0 := Flow.see_new 61 8 hH.sees (by kernel_rfl) (by kernel_rfl) rfl rfl
            have e1 := Flow.see_new 64 11 hH.sees (by kernel_rfl) (by kernel_rfl) rfl rfl
            exact s_ixS (s := 1) ((first + c)) _ rfl Try.underlying72 (by kernel_rfl) (by first | exact e0 | simpa [Act.eval] using e0 | (simp [Act.eval])) (by first | exact e1 | simpa [Act.eval] using e1 | (simp [Act.eval])) (by omega) (by omega) (by omega)
          refine Flow.pass_val (.int .u64 ((d1[(first + c)]! : Nat) : Int)) (Flow.met_none rfl) (fun a W hH => ?_) ?_
          · have e0 := Flow.see_new 65 12 hH.sees (by kernel_rfl) (by kernel_rfl) rfl rfl
            have fa0 : (fun W => NR W g d1 R) W := hH.fact _ (List.mem_of_getElem? (i := 0) rfl) rfl
            have cc := nr_cell fa0 ((first + c)) (by omega); go_simp; first | done | rfl
          refine Flow.pass_old (X := .slice (some ⟨g, 0, none⟩) n cap) 0 (Flow.met_none rfl) (.inl rfl) (by kernel_rfl) (by kernel_rfl) rfl ?_
          refine Flow.pass_old (X := .int .i64 ((first : Int))) 3 (Flow.met_none rfl) (.inl rfl) (by kernel_rfl) (by kernel_rfl) rfl ?_
          refine Flow.pass_old (X := .int .i64 ((root : Int))) 8 (Flow.met_none rfl) (.inl rfl) (by kernel_rfl) (by kernel_rfl) rfl ?_
          refine Flow.pass_val (.int .i64 ((first : Int) + (root : Int))) (Flow.met_none rfl) (fun a W hH => ?_) ?_
          · have e0 := Flow.see_new 68 15 hH.sees (by kernel_rfl) (by kernel_rfl) rfl rfl
            have e1 := Flow.see_new 69 16 hH.sees (by kernel_rfl) (by kernel_rfl) rfl rfl
            go_simp; first | done | rfl | (rw [IntWalk.i64_in _ (by omega)]; first | done | rfl | omega | (simp; done))
          refine Flow.pass_val (.pointer (some ⟨g, (first + root), none⟩)) (Flow.met_none rfl) (fun a W hH => ?_) ?_
          · have e0 := Flow.see_new 67 14 hH.sees (by kernel_rfl) (by kernel_rfl) rfl rfl
            have e1 := Flow.see_new 70 17 hH.sees (by kernel_rfl) (by kernel_rfl) rfl rfl
            exact s_ixS (s := 1) ((first + root)) _ rfl Try.underlying72 (by kernel_rfl) (by first | exact e0 | simpa [Act.eval] using e0 | (simp [Act.eval])) (by first | exact e1 | simpa [Act.eval] using e1 | (simp [Act.eval])) (by omega) (by omega) (by omega)
          refine Flow.pass_val (.int .u64 ((d1[(first + root)]! : Nat) : Int)) (Flow.met_none rfl) (fun a W hH => ?_) ?_
          · have e0 := Flow.see_new 71 18 hH.sees (by kernel_rfl) (by kernel_rfl) rfl rfl
            have fa1 : (fun W => NR W g d1 R) W := hH.fact _ (List.mem_of_getElem? (i := 1) rfl) rfl
            have cc := nr_cell fa1 ((first + root)) (by omega); go_simp; first | done | rfl
          refine Flow.pass_val (.pointer (some ⟨g, (first + root), none⟩)) (Flow.met_none rfl) (fun a W hH => ?_) ?_
          · have e0 := Flow.see_new 53 0 hH.sees (by kernel_rfl) (by kernel_rfl) rfl rfl
            have e1 := Flow.see_new 56 3 hH.sees (by kernel_rfl) (by kernel_rfl) rfl rfl
            exact s_ixS (s := 1) ((first + root)) _ rfl Try.underlying72 (by kernel_rfl) (by first | exact e0 | simpa [Act.eval] using e0 | (simp [Act.eval])) (by first | exact e1 | simpa [Act.eval] using e1 | (simp [Act.eval])) (by omega) (by omega) (by omega)
          refine Flow.pass_lin [23] (fun _ W => NR W g (d1.setIfInBounds ((first + root)) (d1[(first + c)]!)) R) (Flow.kept_lin [23] (fun _ _ _ c h => h.chg c id) (Flow.lz_cons (Flow.no_follow (by kernel_rfl)) (Flow.lz_cons (fun _ => .inl rfl) Flow.lz_nil))) (Flow.met_none rfl) (fun a W hH => ?_) ?_
          · have e0 := Flow.see_new 73 20 hH.sees (by kernel_rfl) (by kernel_rfl) rfl rfl
            have e1 := Flow.see_new 66 13 hH.sees (by kernel_rfl) (by kernel_rfl) rfl rfl
            have fa2 : (fun W => NR W g d1 R) W := hH.fact _ (List.mem_of_getElem? (i := 2) rfl) rfl
            refine s_skip (s_store rfl (by kernel_rfl) fa2 e0 e1 (nr_size (by omega))) ?_
            exact ⟨_, rfl, Chg.grown (s_grown _ _ _ _) (by rintro j h; cases h; rfl), nr_set fa2 _ (by omega) _⟩
          refine Flow.pass_val (.pointer (some ⟨g, (first + c), none⟩)) (Flow.met_none rfl) (fun a W hH => ?_) ?_
          · have e0 := Flow.see_new 57 4 hH.sees (by kernel_rfl) (by kernel_rfl) rfl rfl
            have e1 := Flow.see_new 60 7 hH.sees (by kernel_rfl) (by kernel_rfl) rfl rfl
            exact s_ixS (s := 1) ((first + c)) _ rfl Try.underlying72 (by kernel_rfl) (by first | exact e0 | simpa [Act.eval] using e0 | (simp [Act.eval])) (by first | exact e1 | simpa [Act.eval] using e1 | (simp [Act.eval])) (by omega) (by omega) (by omega)
          refine Flow.pass_gen (fun _ W => NR W g ((d1.setIfInBounds ((first + root)) (d1[(first + c)]!)).setIfInBounds ((first + c)) (d1[(first + root)]!)) R) (Flow.kept_of (fun _ _ _ c h => h.chg c id) (Flow.kz_cons (Flow.no_follow (by kernel_rfl)) (Flow.kz_cons (Flow.no_follow (by kernel_rfl)) Flow.kz_nil))) (Flow.met_none rfl) (fun a W hH => ?_) ?_
          · have e0 := Flow.see_new 74 22 hH.sees (by kernel_rfl) (by kernel_rfl) rfl rfl
            have e1 := Flow.see_new 72 19 hH.sees (by kernel_rfl) (by kernel_rfl) rfl rfl
            obtain ⟨_, hP⟩ := Flow.past_lin 21 hH.past (by kernel_rfl) (by kernel_rfl) rfl (by kernel_rfl)
            refine s_skip (s_store rfl (by kernel_rfl) hP e0 e1 (nr_size (by rw [Array.size_setIfInBounds]; omega))) ?_
            exact ⟨_, rfl, Chg.grown (s_grown _ _ _ _) (by rintro j h; cases h; rfl), nr_set hP _ (by rw [Array.size_setIfInBounds]; omega) _⟩
          refine Flow.pass_end [none, none, none, none, none, none, none, none, none, none, none, none, none, none, none, none, none, none, none, none, none, none, none, none, none, none, none, none, none, none, none, none, none, none, none, none, none, none, none, none, none, none, none, none, none, none, none, none, none, none, none, none, none, some 53, some 54, some 55, some 56, some 57, some 58, some 59, some 60, some 61, some 62, some 63, some 64, some 65, some 66, some 67, some 68, some 69, some 70, some 71, some 72, some 73, some 74, none] (by kernel_rfl) ?_
          intro f gg w9 hB hfa hT hfg
          have F3 : (fun W => Chg (OnlyG g) W5 W) w9 := hfa _ (List.mem_of_getElem? (i := 3) rfl) (Nat.le_refl _)
          have hN_W6 : NR w9 g (Sort.swp d1 (first + root) (first + c)) R := hT 23 _ (by kernel_rfl) rfl
          have hC_W6 := hC_W5.trans F3
          simp only [Reg.sel]
          obtain ⟨W6, hWW6⟩ : ∃ W, W = w9 := ⟨_, rfl⟩
          subst hWW6
          clear hT hfg hfa hB F3
          go_wp2
          go_roundw
          case rel => first | exact ⟨c, _, rfl, by omega, Lib.hid (by rw [← hI.out, hgo.out]; rfl), by rw [swp_size]; exact hn1, hN_W6, hC_W6⟩ | ((repeat apply Exists.intro); refine ⟨?_, rfl⟩; exact ⟨c, _, rfl, by omega, Lib.hid (by rw [← hI.out, hgo.out]; rfl), by rw [swp_size]; exact hn1, hN_W6, hC_W6⟩)
          case measure => first | (simp [intOf]; done) | (simp [intOf]; omega) | (simp only [intOf]; omega)
      | false =>
        rw [← HC1.out] at hT
        have hT := Lib.hid hT
        have hpick := sift_pick (first := first) (d := d1) hge2 (c := c1) (by rw [hT.out]; show _ = 2 * root + 1; omega)
        have hch : c1 < hi := by omega
        have hcr : root < c1 := by omega
        have hpick := Lib.hid hpick
        clear hT
        go_upto_region 5 with (fail)
        refine s_cut [none, none, none, none, none, none, none, none, none, none, none, none, none, none, none, none, none, none, none, none, none, none, none, none, none, none, none, none, none, none, none, none, none, none, none, none, none, none, none, some 39, some 40, some 41, some 42, some 43, some 44, some 45, some 46, some 47, some 48, some 49, some 50, some 51, some 52, none, none, none, none, none, none, none, none, none, none, none, none, none, none, none, none, none, none, none, none, none, none, none] (fun f W => f 52 = .bool (!ltN d1[first + root]! d1[first + c1]!) ∧ Below W4.heap.size W4 W) (fun Q1 hQ1 => ?_) ?_
        · skip
          refine Flow.wp_region_flow (W4.heap.size) [] [] (by kernel_rfl) (by kernel_rfl) (Nat.le_refl _) (fun _ h => by cases h) Flow.facts_nil ?_
          refine Flow.pass_old (X := .slice (some ⟨g, 0, none⟩) n cap) 0 (Flow.met_none rfl) (.inl rfl) (by kernel_rfl) (by kernel_rfl) rfl ?_
          refine Flow.pass_old (X := .int .i64 ((first : Int))) 3 (Flow.met_none rfl) (.inl rfl) (by kernel_rfl) (by kernel_rfl) rfl ?_
          refine Flow.pass_old (X := .int .i64 ((root : Int))) 8 (Flow.met_none rfl) (.inl rfl) (by kernel_rfl) (by kernel_rfl) rfl ?_
          refine Flow.pass_val (.int .i64 ((first : Int) + (root : Int))) (Flow.met_none rfl) (fun a W hH => ?_) ?_
          · have e0 := Flow.see_new 40 1 hH.sees (by kernel_rfl) (by kernel_rfl) rfl rfl
            have e1 := Flow.see_new 41 2 hH.sees (by kernel_rfl) (by kernel_rfl) rfl rfl
            go_simp; first | done | rfl | (rw [IntWalk.i64_in _ (by omega)]; first | done | rfl | omega | (simp; done))
          refine Flow.pass_val (.pointer (some ⟨g, (first + root), none⟩)) (Flow.met_none rfl) (fun a W hH => ?_) ?_
          · have e0 := Flow.see_new 39 0 hH.sees (by kernel_rfl) (by kernel_rfl) rfl rfl
            have e1 := Flow.see_new 42 3 hH.sees (by kernel_rfl) (by kernel_rfl) rfl rfl
            exact s_ixS (s := 1) ((first + root)) _ rfl Try.underlying72 (by kernel_rfl) (by first | exact e0 | simpa [Act.eval] using e0 | (simp [Act.eval])) (by first | exact e1 | simpa [Act.eval] using e1 | (simp [Act.eval])) (by omega) (by omega) (by omega)
          refine Flow.pass_val (.int .u64 ((d1[(first + root)]! : Nat) : Int)) (Flow.met_none rfl) (fun a W hH => ?_) ?_
          · have e0 := Flow.see_new 43 4 hH.sees (by kernel_rfl) (by kernel_rfl) rfl rfl
            have cc := nr_cell (hN_W4.below ((Below.refl W4.heap.size W4).drew.trans hH.below) hN_W4.lt) ((first + root)) (by omega); go_simp; first | done | rfl
          refine Flow.pass_old (X := .slice (some ⟨g, 0, none⟩) n cap) 0 (Flow.met_none rfl) (.inl rfl) (by kernel_rfl) (by kernel_rfl) rfl ?_
          refine Flow.pass_old (X := .int .i64 ((first : Int))) 3 (Flow.met_none rfl) (.inl rfl) (by kernel_rfl) (by kernel_rfl) rfl ?_
          refine Flow.pass_old (X := .int .i64 ((c1 : Int))) 9 (Flow.met_none rfl) (.inl rfl) (by kernel_rfl) (by kernel_rfl) rfl ?_
          refine Flow.pass_val (.int .i64 ((first : Int) + (c1 : Int))) (Flow.met_none rfl) (fun a W hH => ?_) ?_
          · have e0 := Flow.see_new 46 7 hH.sees (by kernel_rfl) (by kernel_rfl) rfl rfl
            have e1 := Flow.see_new 47 8 hH.sees (by kernel_rfl) (by kernel_rfl) rfl rfl
            go_simp; first | done | rfl | (rw [IntWalk.i64_in _ (by omega)]; first | done | rfl | omega | (simp; done))
          refine Flow.pass_val (.pointer (some ⟨g, (first + c1), none⟩)) (Flow.met_none rfl) (fun a W hH => ?_) ?_
          · have e0 := Flow.see_new 45 6 hH.sees (by kernel_rfl) (by kernel_rfl) rfl rfl
            have e1 := Flow.see_new 48 9 hH.sees (by kernel_rfl) (by kernel_rfl) rfl rfl
            exact s_ixS (s := 1) ((first + c1)) _ rfl Try.underlying72 (by kernel_rfl) (by first | exact e0 | simpa [Act.eval] using e0 | (simp [Act.eval])) (by first | exact e1 | simpa [Act.eval] using e1 | (simp [Act.eval])) (by omega) (by omega) (by omega)
          refine Flow.pass_val (.int .u64 ((d1[(first + c1)]! : Nat) : Int)) (Flow.met_none rfl) (fun a W hH => ?_) ?_
          · have e0 := Flow.see_new 49 10 hH.sees (by kernel_rfl) (by kernel_rfl) rfl rfl
            have cc := nr_cell (hN_W4.below ((Below.refl W4.heap.size W4).drew.trans hH.below) hN_W4.lt) ((first + c1)) (by omega); go_simp; first | done | rfl
          refine Flow.pass_step (Reg.eqs (.bool (ltN (d1[(first + root)]!) (d1[(first + c1)]!)))) (fun _ _ => Flow.kept_eqs _ _) (Flow.met_none rfl) (fun a W hH => ?_) ?_
          · have e0 := Flow.see_new 44 5 hH.sees (by kernel_rfl) (by kernel_rfl) rfl rfl
            have e1 := Flow.see_new 50 11 hH.sees (by kernel_rfl) (by kernel_rfl) rfl rfl
            refine Reg.wp_call rfl Try.func77 rfl (by kernel_rfl) (by simp [Act.eval, e0, e1]) (lessN (d1[(first + root)]!) (d1[(first + c1)]!) W) ?_
            rintro e w' ⟨rfl, rfl⟩
            exact ⟨_, rfl, _, rfl, Ext.refl _, rfl⟩
          refine Flow.pass_val (.bool (!(ltN (d1[(first + root)]!) (d1[(first + c1)]!)))) (Flow.met_none rfl) (fun a W hH => ?_) ?_
          · have e0 := Flow.see_new 51 12 hH.sees (by kernel_rfl) (by kernel_rfl) rfl rfl
            go_simp; first | done | rfl
          refine Flow.pass_end [none, none, none, none, none, none, none, none, none, none, none, none, none, none, none, none, none, none, none, none, none, none, none, none, none, none, none, none, none, none, none, none, none, none, none, none, none, none, none, some 39, some 40, some 41, some 42, some 43, some 44, some 45, some 46, some 47, some 48, some 49, some 50, some 51, some 52, none, none, none, none, none, none, none, none, none, none, none, none, none, none, none, none, none, none, none, none, none, none, none] (by kernel_rfl) ?_
          intro f gg w9 hB hfa hT hfg
          have h52 : f 52 = _ := (hfg 52 13 (by kernel_rfl)).trans (hT 13 _ (by kernel_rfl) rfl)
          exact hQ1 f w9 ⟨h52, (Below.refl W4.heap.size W4).drew.trans hB⟩
        intro f W5 ⟨h52, hBW5⟩
        simp only [Reg.sel, h52]
        have hN_W5 := Blk.below hN_W4 hBW5 (Blk.lt hN_W4)
        have hC_W5 := hC_W4.trans (Chg.of_ext hBW5)
        clear h52 hBW5
        cases hL : ltN d1[first + root]! d1[first + c1]! with
        | false =>
          have hstop := hpick.out
          rw [hL] at hstop
          have hstop := Lib.hid hstop
          clear hpick hL
          go_wp2
          refine bodyPost_ret (results_none rfl _ _ _) rfl ?_
          exact ⟨rfl, d1, by rw [← hI.out, hstop.out]; rfl, hN_W5, hC_W5⟩
        | true =>
          have hgo := hpick.out
          rw [hL] at hgo
          have hgo := Lib.hid hgo
          clear hpick hL
          go_upto_region 6 with (fail)
          refine Flow.wp_region_flow (g) [(21, fun b => b = g), (23, fun b => b = g)] [(13, fun W => NR W g d1 R), (19, fun W => NR W g d1 R), (21, fun W => NR W g d1 R), (24, fun W => Chg (OnlyG g) W5 W)] (by kernel_rfl) (by kernel_rfl) (Nat.le_of_lt hN_W5.lt) (Flow.nz_cons (by rintro b rfl; exact Nat.le_refl _) (Flow.nz_cons (by rintro b rfl; exact Nat.le_refl _) Flow.nz_nil)) (Flow.facts_cons (hN_W5.drew) (Flow.kept_blk id) (Flow.fz_cons (Flow.no_follow (by kernel_rfl)) (Flow.fz_cons (Flow.no_follow (by kernel_rfl)) Flow.fz_nil)) (Flow.facts_cons (hN_W5.drew) (Flow.kept_blk id) (Flow.fz_cons (Flow.no_follow (by kernel_rfl)) (Flow.fz_cons (Flow.no_follow (by kernel_rfl)) Flow.fz_nil)) (Flow.facts_cons (hN_W5.drew) (Flow.kept_blk id) (Flow.fz_cons (Flow.no_follow (by kernel_rfl)) (Flow.fz_cons (Flow.no_follow (by kernel_rfl)) Flow.fz_nil)) (Flow.facts_cons ((Chg.refl _ _).drew) (fun _ _ c h => onlyg_trans h c (by first | exact fun _ hj => hj | exact fun _ hj => hj.elim)) (Flow.fz_cons (fun _ => fun _ _ c h => onlyg_trans h c (by first | exact fun _ hj => hj | exact fun _ hj => hj.elim)) (Flow.fz_cons (fun _ => fun _ _ c h => onlyg_trans h c (by first | exact fun _ hj => hj | exact fun _ hj => hj.elim)) Flow.fz_nil)) Flow.facts_nil)))) ?_
          refine Flow.pass_old (X := .slice (some ⟨g, 0, none⟩) n cap) 0 (Flow.met_none rfl) (.inl rfl) (by kernel_rfl) (by kernel_rfl) rfl ?_
          refine Flow.pass_old (X := .int .i64 ((first : Int))) 3 (Flow.met_none rfl) (.inl rfl) (by kernel_rfl) (by kernel_rfl) rfl ?_
          refine Flow.pass_old (X := .int .i64 ((root : Int))) 8 (Flow.met_none rfl) (.inl rfl) (by kernel_rfl) (by kernel_rfl) rfl ?_
          refine Flow.pass_val (.int .i64 ((first : Int) + (root : Int))) (Flow.met_none rfl) (fun a W hH => ?_) ?_
          · have e0 := Flow.see_new 54 1 hH.sees (by kernel_rfl) (by kernel_rfl) rfl rfl
            have e1 := Flow.see_new 55 2 hH.sees (by kernel_rfl) (by kernel_rfl) rfl rfl
            go_simp; first | done | rfl | (rw [IntWalk.i64_in _ (by omega)]; first | done | rfl | omega | (simp; done))
          refine Flow.pass_old (X := .slice (some ⟨g, 0, none⟩) n cap) 0 (Flow.met_none rfl) (.inl rfl) (by kernel_rfl) (by kernel_rfl) rfl ?_
          refine Flow.pass_old (X := .int .i64 ((first : Int))) 3 (Flow.met_none rfl) (.inl rfl) (by kernel_rfl) (by kernel_rfl) rfl ?_
          refine Flow.pass_old (X := .int .i64 ((c1 : Int))) 9 (Flow.met_none rfl) (.inl rfl) (by kernel_rfl) (by kernel_rfl) rfl ?_
          refine Flow.pass_val (.int .i64 ((first : Int) + (c1 : Int))) (Flow.met_none rfl) (fun a W hH => ?_) ?_
          · have e0 := Flow.see_new 58 5 hH.sees (by kernel_rfl) (by kernel_rfl) rfl rfl
            have e1 := Flow.see_new 59 6 hH.sees (by kernel_rfl) (by kernel_rfl) rfl rfl
            go_simp; first | done | rfl | (rw [IntWalk.i64_in _ (by omega)]; first | done | rfl | omega | (simp; done))
          refine Flow.pass_old (X := .slice (some ⟨g, 0, none⟩) n cap) 0 (Flow.met_none rfl) (.inl rfl) (by kernel_rfl) (by kernel_rfl) rfl ?_
          refine Flow.pass_old (X := .int .i64 ((first : Int))) 3 (Flow.met_none rfl) (.inl rfl) (by kernel_rfl) (by kernel_rfl) rfl ?_
          refine Flow.pass_old (X := .int .i64 ((c1 : Int))) 9 (Flow.met_none rfl) (.inl rfl) (by kernel_rfl) (by kernel_rfl) rfl ?_
          refine Flow.pass_val (.int .i64 ((first : Int) + (c1 : Int))) (Flow.met_none rfl) (fun a W hH => ?_) ?_
          · have e0 := Flow.see_new 62 9 hH.sees (by kernel_rfl) (by kernel_rfl) rfl rfl
            have e1 := Flow.see_new 63 10 hH.sees (by kernel_rfl) (by kernel_rfl) rfl rfl
            go_simp; first | done | rfl | (rw [IntWalk.i64_in _ (by omega)]; first | done | rfl | omega | (simp; done))
          refine Flow.pass_val (.pointer (some ⟨g, (first + c1), none⟩)) (Flow.met_none rfl) (fun a W hH => ?_) ?_
          · have e0 := Flow.see_new 61 8 hH.sees (by kernel_rfl) (by kernel_rfl) rfl rfl
            have e1 := Flow.see_new 64 11 hH.sees (by kernel_rfl) (by kernel_rfl) rfl rfl
            exact s_ixS (s := 1) ((first + c1)) _ rfl Try.underlying72 (by kernel_rfl) (by first | exact e0 | simpa [Act.eval] using e0 | (simp [Act.eval])) (by first | exact e1 | simpa [Act.eval] using e1 | (simp [Act.eval])) (by omega) (by omega) (by omega)
          refine Flow.pass_val (.int .u64 ((d1[(first + c1)]! : Nat) : Int)) (Flow.met_none rfl) (fun a W hH => ?_) ?_
          · have e0 := Flow.see_new 65 12 hH.sees (by kernel_rfl) (by kernel_rfl) rfl rfl
            have fa0 : (fun W => NR W g d1 R) W := hH.fact _ (List.mem_of_getElem? (i := 0) rfl) rfl
            have cc := nr_cell fa0 ((first + c1)) (by omega); go_simp; first | done | rfl
          refine Flow.pass_old (X := .slice (some ⟨g, 0, none⟩) n cap) 0 (Flow.met_none rfl) (.inl rfl) (by kernel_rfl) (by kernel_rfl) rfl ?_
          refine Flow.pass_old (X := .int .i64 ((first : Int))) 3 (Flow.met_none rfl) (.inl rfl) (by kernel_rfl) (by kernel_rfl) rfl ?_
          refine Flow.pass_old (X := .int .i64 ((root : Int))) 8 (Flow.met_none rfl) (.inl rfl) (by kernel_rfl) (by kernel_rfl) rfl ?_
          refine Flow.pass_val (.int .i64 ((first : Int) + (root : Int))) (Flow.met_none rfl) (fun a W hH => ?_) ?_
          · have e0 := Flow.see_new 68 15 hH.sees (by kernel_rfl) (by kernel_rfl) rfl rfl
            have e1 := Flow.see_new 69 16 hH.sees (by kernel_rfl) (by kernel_rfl) rfl rfl
            go_simp; first | done | rfl | (rw [IntWalk.i64_in _ (by omega)]; first | done | rfl | omega | (simp; done))
          refine Flow.pass_val (.pointer (some ⟨g, (first + root), none⟩)) (Flow.met_none rfl) (fun a W hH => ?_) ?_
          · have e0 := Flow.see_new 67 14 hH.sees (by kernel_rfl) (by kernel_rfl) rfl rfl
            have e1 := Flow.see_new 70 17 hH.sees (by kernel_rfl) (by kernel_rfl) rfl rfl
            exact s_ixS (s := 1) ((first + root)) _ rfl Try.underlying72 (by kernel_rfl) (by first | exact e0 | simpa [Act.eval] using e0 | (simp [Act.eval])) (by first | exact e1 | simpa [Act.eval] using e1 | (simp [Act.eval])) (by omega) (by omega) (by omega)
          refine Flow.pass_val (.int .u64 ((d1[(first + root)]! : Nat) : Int)) (Flow.met_none rfl) (fun a W hH => ?_) ?_
          · have e0 := Flow.see_new 71 18 hH.sees (by kernel_rfl) (by kernel_rfl) rfl rfl
            have fa1 : (fun W => NR W g d1 R) W := hH.fact _ (List.mem_of_getElem? (i := 1) rfl) rfl
            have cc := nr_cell fa1 ((first + root)) (by omega); go_simp; first | done | rfl
          refine Flow.pass_val (.pointer (some ⟨g, (first + root), none⟩)) (Flow.met_none rfl) (fun a W hH => ?_) ?_
          · have e0 := Flow.see_new 53 0 hH.sees (by kernel_rfl) (by kernel_rfl) rfl rfl
            have e1 := Flow.see_new 56 3 hH.sees (by kernel_rfl) (by kernel_rfl) rfl rfl
            exact s_ixS (s := 1) ((first + root)) _ rfl Try.underlying72 (by kernel_rfl) (by first | exact e0 | simpa [Act.eval] using e0 | (simp [Act.eval])) (by first | exact e1 | simpa [Act.eval] using e1 | (simp [Act.eval])) (by omega) (by omega) (by omega)
          refine Flow.pass_lin [23] (fun _ W => NR W g (d1.setIfInBounds ((first + root)) (d1[(first + c1)]!)) R) (Flow.kept_lin [23] (fun _ _ _ c h => h.chg c id) (Flow.lz_cons (Flow.no_follow (by kernel_rfl)) (Flow.lz_cons (fun _ => .inl rfl) Flow.lz_nil))) (Flow.met_none rfl) (fun a W hH => ?_) ?_
          · have e0 := Flow.see_new 73 20 hH.sees (by kernel_rfl) (by kernel_rfl) rfl rfl
            have e1 := Flow.see_new 66 13 hH.sees (by kernel_rfl) (by kernel_rfl) rfl rfl
            have fa2 : (fun W => NR W g d1 R) W := hH.fact _ (List.mem_of_getElem? (i := 2) rfl) rfl
            refine s_skip (s_store rfl (by kernel_rfl) fa2 e0 e1 (nr_size (by omega))) ?_
            exact ⟨_, rfl, Chg.grown (s_grown _ _ _ _) (by rintro j h; cases h; rfl), nr_set fa2 _ (by omega) _⟩
          refine Flow.pass_val (.pointer (some ⟨g, (first + c1), none⟩)) (Flow.met_none rfl) (fun a W hH => ?_) ?_
          · have e0 := Flow.see_new 57 4 hH.sees (by kernel_rfl) (by kernel_rfl) rfl rfl
            have e1 := Flow.see_new 60 7 hH.sees (by kernel_rfl) (by kernel_rfl) rfl rfl
            exact s_ixS (s := 1) ((first + c1)) _ rfl Try.underlying72 (by kernel_rfl) (by first | exact e0 | simpa [Act.eval] using e0 | (simp [Act.eval])) (by first | exact e1 | simpa [Act.eval] using e1 | (simp [Act.eval])) (by omega) (by omega) (by omega)
          refine Flow.pass_gen (fun _ W => NR W g ((d1.setIfInBounds ((first + root)) (d1[(first + c1)]!)).setIfInBounds ((first + c1)) (d1[(first + root)]!)) R) (Flow.kept_of (fun _ _ _ c h => h.chg c id) (Flow.kz_cons (Flow.no_follow (by kernel_rfl)) (Flow.kz_cons (Flow.no_follow (by kernel_rfl)) Flow.kz_nil))) (Flow.met_none rfl) (fun a W hH => ?_) ?_
          · have e0 := Flow.see_new 74 22 hH.sees (by kernel_rfl) (by kernel_rfl) rfl rfl
            have e1 := Flow.see_new 72 19 hH.sees (by kernel_rfl) (by kernel_rfl) rfl rfl
            obtain ⟨_, hP⟩ := Flow.past_lin 21 hH.past (by kernel_rfl) (by kernel_rfl) rfl (by kernel_rfl)
            refine s_skip (s_store rfl (by kernel_rfl) hP e0 e1 (nr_size (by rw [Array.size_setIfInBounds]; omega))) ?_
            exact ⟨_, rfl, Chg.grown (s_grown _ _ _ _) (by rintro j h; cases h; rfl), nr_set hP _ (by rw [Array.size_setIfInBounds]; omega) _⟩
          refine Flow.pass_end [none, none, none, none, none, none, none, none, none, none, none, none, none, none, none, none, none, none, none, none, none, none, none, none, none, none, none, none, none, none, none, none, none, none, none, none, none, none, none, none, none, none, none, none, none, none, none, none, none, none, none, none, none, some 53, some 54, some 55, some 56, some 57, some 58, some 59, some 60, some 61, some 62, some 63, some 64, some 65, some 66, some 67, some 68, some 69, some 70, some 71, some 72, some 73, some 74, none] (by kernel_rfl) ?_
          intro f gg w9 hB hfa hT hfg
          have F3 : (fun W => Chg (OnlyG g) W5 W) w9 := hfa _ (List.mem_of_getElem? (i := 3) rfl) (Nat.le_refl _)
          have hN_W6 : NR w9 g (Sort.swp d1 (first + root) (first + c1)) R := hT 23 _ (by kernel_rfl) rfl
          have hC_W6 := hC_W5.trans F3
          simp only [Reg.sel]
          obtain ⟨W6, hWW6⟩ : ∃ W, W = w9 := ⟨_, rfl⟩
          subst hWW6
          clear hT hfg hfa hB F3
          go_wp2
          go_roundw
          case rel => first | exact ⟨c1, _, rfl, by omega, Lib.hid (by rw [← hI.out, hgo.out]; rfl), by rw [swp_size]; exact hn1, hN_W6, hC_W6⟩ | ((repeat apply Exists.intro); refine ⟨?_, rfl⟩; exact ⟨c1, _, rfl, by omega, Lib.hid (by rw [← hI.out, hgo.out]; rfl), by rw [swp_size]; exact hn1, hN_W6, hC_W6⟩)
          case measure => first | (simp [intOf]; done) | (simp [intOf]; omega) | (simp only [intOf]; omega)
    · have hgi : (hi : Int) ≤ (c1 : Int) := by omega
      go_wp2
      refine bodyPost_ret (results_none rfl _ _ _) rfl ?_
      exact ⟨rfl, d1, by rw [← hI.out, sift_stop (by omega)], hN_wr, hC_wr⟩
theorem siftDown_size (hi first root : Nat) (d : Array Nat) : (Sort.siftDown ltN hi first root d).size = d.size := by
  fun_induction Sort.siftDown ltN hi first root d <;> simp_all [Sort.swp]

set_option maxRecDepth 100000 in
set_option maxHeartbeats 2000000 in
theorem heapSort_walk (g : Nat) (R : List Value) (d : Array Nat) (n cap lo hi : Nat) (hn : d.size = n) (hlo : lo < hi) (hhi : hi ≤ n) (hn5 : n ≤ 1000000) (w : World) (hN : NR w g d R) :
    Calls Try.prog 72 #[.slice (some ⟨g, 0, none⟩) n cap, .int .i64 (lo : Int), .int .i64 (hi : Int)] w (SRet w g R fun d' => d' = Sort.heapSort ltN d lo hi) := by
  obtain ⟨H, hH⟩ : ∃ H, hi - lo = H := ⟨_, rfl⟩
  obtain ⟨K, hK⟩ : ∃ K, (H - 1) / 2 + 1 = K := ⟨_, rfl⟩
  obtain ⟨BD, hBD⟩ : ∃ X, Sort.heapBuild ltN H lo K d = X := ⟨_, rfl⟩
  obtain ⟨RES, hRES⟩ : ∃ X, Sort.heapSort ltN d lo hi = X := ⟨_, rfl⟩
  rw [hRES]
  have h0 := Lib.hid hBD
  have h1 : Hid (Sort.heapPop ltN lo H BD = RES) := Lib.hid (by rw [← hRES, ← hBD, ← hK, ← hH]; rfl)
  have hHi : IntKind.i64.wrap ((hi : Int) - (lo : Int)) = (H : Int) := by rw [IntWalk.i64_in _ (by omega)]; omega
  have hH1 : IntKind.i64.wrap ((H : Int) - 1) = (H : Int) - 1 := IntWalk.i64_in _ (by omega)
  have hH2 : ((H : Int) - 1).tdiv 2 = (K : Int) - 1 := by rw [Int.tdiv_eq_ediv_of_nonneg (by omega)]; omega
  have hH3 : ((H : Int) - 1) / 2 = (K : Int) - 1 := by omega
  have hKn : K ≤ n := by omega
  have hHn : lo + H ≤ n := by omega
  clear hBD hRES
  have HK := Lib.hid hK
  have HH := Lib.hid hH
  clear hK hH
  go_enter Try.func72, Try.ntmps72
  go_wp2
  go_loopw [9] (fun i wr => ∃ (k : Nat) (d1 : Array Nat), i = .int .i64 ((k : Int) - 1) ∧ k ≤ K ∧ Hid (Sort.heapBuild ltN H lo k d1 = BD) ∧ d1.size = n ∧ NR wr g d1 R ∧ Chg (OnlyG g) w wr) (fun i _ => ((intOf i) + 1).toNat)
  case atStart => exact ⟨K, d, by first | rfl | (congr 1; done) | go_num, Nat.le_refl _, h0, hn, hN, Chg.refl _ _⟩
  case round =>
    obtain ⟨k, d1, rfl, hk, hI, hn1, hN_wr, hC_wr⟩ := hrel
    by_cases hk0 : 0 < k
    · obtain ⟨j, rfl⟩ : ∃ j, k = j + 1 := ⟨k - 1, by omega⟩
      have hj : (((j + 1 : Nat) : Int) - 1) = (j : Int) := by omega
      rw [hj]
      have hcall := siftDown_walk g R d1 n cap j H lo hn1 (by omega) (by omega) hn5 wr hN_wr
      have hjw : IntKind.i64.wrap ((j : Int) - 1) = (j : Int) - 1 := IntWalk.i64_in _ (by omega)
      go_wp2_with fail
      refine Calls.mono hcall ?_
      rintro e W5 ⟨rfl, d2, hd2, hN5, hC5⟩
      clear hcall
      go_wp2
      go_roundw
      case rel => first | exact ⟨j, d2, rfl, by omega, Lib.hid (by rw [hd2]; exact hI.out), by rw [hd2, siftDown_size]; exact hn1, hN5, hC_wr.trans hC5⟩ | ((repeat apply Exists.intro); refine ⟨?_, rfl⟩; exact ⟨j, d2, rfl, by omega, Lib.hid (by rw [hd2]; exact hI.out), by rw [hd2, siftDown_size]; exact hn1, hN5, hC_wr.trans hC5⟩)
      case measure => first | (simp [intOf]; done) | (simp [intOf]; omega) | (simp only [intOf]; omega)
    · obtain rfl : k = 0 := by omega
      have hBDe : d1 = BD := hI.out
      subst hBDe
      have hC0 := hC_wr
      go_wp2
      go_loopw [10] (fun i wr => ∃ (k : Nat) (d2 : Array Nat), i = .int .i64 ((k : Int) - 1) ∧ k ≤ H ∧ Hid (Sort.heapPop ltN lo k d2 = RES) ∧ d2.size = n ∧ NR wr g d2 R ∧ Chg (OnlyG g) w wr) (fun i _ => ((intOf i) + 1).toNat)
      case atStart => exact ⟨H, d1, by first | rfl | (congr 1; done) | go_num, Nat.le_refl _, h1, hn1, hN_wr, hC_wr⟩
      case round =>
        obtain ⟨k, d2, rfl, hk, hI2, hn2, hN_wr, hC_wr⟩ := hrel
        by_cases hk0 : 0 < k
        · obtain ⟨j, rfl⟩ : ∃ j, k = j + 1 := ⟨k - 1, by omega⟩
          have hj : (((j + 1 : Nat) : Int) - 1) = (j : Int) := by omega
          rw [hj]
          have hjw : IntKind.i64.wrap ((j : Int) - 1) = (j : Int) - 1 := IntWalk.i64_in _ (by omega)
          go_upto_region 10 with (fail)
          refine Flow.wp_region_flow (g) [(17, fun b => b = g), (19, fun b => b = g)] [(11, fun W => NR W g d2 R), (15, fun W => NR W g d2 R), (17, fun W => NR W g d2 R), (20, fun W => Chg (OnlyG g) wr W)] (by kernel_rfl) (by kernel_rfl) (Nat.le_of_lt hN_wr.lt) (Flow.nz_cons (by rintro b rfl; exact Nat.le_refl _) (Flow.nz_cons (by rintro b rfl; exact Nat.le_refl _) Flow.nz_nil)) (Flow.facts_cons (hN_wr.drew) (Flow.kept_blk id) (Flow.fz_cons (Flow.no_follow (by kernel_rfl)) (Flow.fz_cons (Flow.no_follow (by kernel_rfl)) Flow.fz_nil)) (Flow.facts_cons (hN_wr.drew) (Flow.kept_blk id) (Flow.fz_cons (Flow.no_follow (by kernel_rfl)) (Flow.fz_cons (Flow.no_follow (by kernel_rfl)) Flow.fz_nil)) (Flow.facts_cons (hN_wr.drew) (Flow.kept_blk id) (Flow.fz_cons (Flow.no_follow (by kernel_rfl)) (Flow.fz_cons (Flow.no_follow (by kernel_rfl)) Flow.fz_nil)) (Flow.facts_cons ((Chg.refl _ _).drew) (fun _ _ c h => onlyg_trans h c (by first | exact fun _ hj => hj | exact fun _ hj => hj.elim)) (Flow.fz_cons (fun _ => fun _ _ c h => onlyg_trans h c (by first | exact fun _ hj => hj | exact fun _ hj => hj.elim)) (Flow.fz_cons (fun _ => fun _ _ c h => onlyg_trans h c (by first | exact fun _ hj => hj | exact fun _ hj => hj.elim)) Flow.fz_nil)) Flow.facts_nil)))) ?_
          refine Flow.pass_old (X := .slice (some ⟨g, 0, none⟩) n cap) 0 (Flow.met_none rfl) (.inl rfl) (by kernel_rfl) (by kernel_rfl) rfl ?_
          refine Flow.pass_old (X := .int .i64 ((lo : Int))) 6 (Flow.met_none rfl) (.inl rfl) (by kernel_rfl) (by kernel_rfl) rfl ?_
          refine Flow.pass_old (X := .slice (some ⟨g, 0, none⟩) n cap) 0 (Flow.met_none rfl) (.inl rfl) (by kernel_rfl) (by kernel_rfl) rfl ?_
          refine Flow.pass_old (X := .int .i64 ((lo : Int))) 6 (Flow.met_none rfl) (.inl rfl) (by kernel_rfl) (by kernel_rfl) rfl ?_
          refine Flow.pass_old (X := .int .i64 ((j : Int))) 10 (Flow.met_none rfl) (.inl rfl) (by kernel_rfl) (by kernel_rfl) rfl ?_
          refine Flow.pass_val (.int .i64 ((lo : Int) + (j : Int))) (Flow.met_none rfl) (fun a W hH => ?_) ?_
          · have e0 := Flow.see_new 36 3 hH.sees (by kernel_rfl) (by kernel_rfl) rfl rfl
            have e1 := Flow.see_new 37 4 hH.sees (by kernel_rfl) (by kernel_rfl) rfl rfl
            go_simp; first | done | rfl | (rw [IntWalk.i64_in _ (by omega)]; first | done | rfl | omega | (simp; done))
          refine Flow.pass_old (X := .slice (some ⟨g, 0, none⟩) n cap) 0 (Flow.met_none rfl) (.inl rfl) (by kernel_rfl) (by kernel_rfl) rfl ?_
          refine Flow.pass_old (X := .int .i64 ((lo : Int))) 6 (Flow.met_none rfl) (.inl rfl) (by kernel_rfl) (by kernel_rfl) rfl ?_
          refine Flow.pass_old (X := .int .i64 ((j : Int))) 10 (Flow.met_none rfl) (.inl rfl) (by kernel_rfl) (by kernel_rfl) rfl ?_
          refine Flow.pass_val (.int .i64 ((lo : Int) + (j : Int))) (Flow.met_none rfl) (fun a W hH => ?_) ?_
          · have e0 := Flow.see_new 40 7 hH.sees (by kernel_rfl) (by kernel_rfl) rfl rfl
            have e1 := Flow.see_new 41 8 hH.sees (by kernel_rfl) (by kernel_rfl) rfl rfl
            go_simp; first | done | rfl | (rw [IntWalk.i64_in _ (by omega)]; first | done | rfl | omega | (simp; done))
          refine Flow.pass_val (.pointer (some ⟨g, (lo + j), none⟩)) (Flow.met_none rfl) (fun a W hH => ?_) ?_
          · have e0 := Flow.see_new 39 6 hH.sees (by kernel_rfl) (by kernel_rfl) rfl rfl
            have e1 := Flow.see_new 42 9 hH.sees (by kernel_rfl) (by kernel_rfl) rfl rfl
            exact s_ixS (s := 1) ((lo + j)) _ rfl Try.underlying72 (by kernel_rfl) (by first | exact e0 | simpa [Act.eval] using e0 | (simp [Act.eval])) (by first | exact e1 | simpa [Act.eval] using e1 | (simp [Act.eval])) (by omega) (by omega) (by omega)
          refine Flow.pass_val (.int .u64 ((d2[(lo + j)]! : Nat) : Int)) (Flow.met_none rfl) (fun a W hH => ?_) ?_
          · have e0 := Flow.see_new 43 10 hH.sees (by kernel_rfl) (by kernel_rfl) rfl rfl
            have fa0 : (fun W => NR W g d2 R) W := hH.fact _ (List.mem_of_getElem? (i := 0) rfl) rfl
            have cc := nr_cell fa0 ((lo + j)) (by omega); go_simp; first | done | rfl
          refine Flow.pass_old (X := .slice (some ⟨g, 0, none⟩) n cap) 0 (Flow.met_none rfl) (.inl rfl) (by kernel_rfl) (by kernel_rfl) rfl ?_
          refine Flow.pass_old (X := .int .i64 ((lo : Int))) 6 (Flow.met_none rfl) (.inl rfl) (by kernel_rfl) (by kernel_rfl) rfl ?_
          refine Flow.pass_val (.pointer (some ⟨g, lo, none⟩)) (Flow.met_none rfl) (fun a W hH => ?_) ?_
          · have e0 := Flow.see_new 45 12 hH.sees (by kernel_rfl) (by kernel_rfl) rfl rfl
            have e1 := Flow.see_new 46 13 hH.sees (by kernel_rfl) (by kernel_rfl) rfl rfl
            exact s_ixS (s := 1) (lo) _ rfl Try.underlying72 (by kernel_rfl) (by first | exact e0 | simpa [Act.eval] using e0 | (simp [Act.eval])) (by first | exact e1 | simpa [Act.eval] using e1 | (simp [Act.eval])) (by omega) (by omega) (by omega)
          refine Flow.pass_val (.int .u64 ((d2[lo]! : Nat) : Int)) (Flow.met_none rfl) (fun a W hH => ?_) ?_
          · have e0 := Flow.see_new 47 14 hH.sees (by kernel_rfl) (by kernel_rfl) rfl rfl
            have fa1 : (fun W => NR W g d2 R) W := hH.fact _ (List.mem_of_getElem? (i := 1) rfl) rfl
            have cc := nr_cell fa1 (lo) (by omega); go_simp; first | done | rfl
          refine Flow.pass_val (.pointer (some ⟨g, lo, none⟩)) (Flow.met_none rfl) (fun a W hH => ?_) ?_
          · have e0 := Flow.see_new 33 0 hH.sees (by kernel_rfl) (by kernel_rfl) rfl rfl
            have e1 := Flow.see_new 34 1 hH.sees (by kernel_rfl) (by kernel_rfl) rfl rfl
            exact s_ixS (s := 1) (lo) _ rfl Try.underlying72 (by kernel_rfl) (by first | exact e0 | simpa [Act.eval] using e0 | (simp [Act.eval])) (by first | exact e1 | simpa [Act.eval] using e1 | (simp [Act.eval])) (by omega) (by omega) (by omega)
          refine Flow.pass_lin [19] (fun _ W => NR W g (d2.setIfInBounds (lo) (d2[(lo + j)]!)) R) (Flow.kept_lin [19] (fun _ _ _ c h => h.chg c id) (Flow.lz_cons (Flow.no_follow (by kernel_rfl)) (Flow.lz_cons (fun _ => .inl rfl) Flow.lz_nil))) (Flow.met_none rfl) (fun a W hH => ?_) ?_
          · have e0 := Flow.see_new 49 16 hH.sees (by kernel_rfl) (by kernel_rfl) rfl rfl
            have e1 := Flow.see_new 44 11 hH.sees (by kernel_rfl) (by kernel_rfl) rfl rfl
            have fa2 : (fun W => NR W g d2 R) W := hH.fact _ (List.mem_of_getElem? (i := 2) rfl) rfl
            refine s_skip (s_store rfl (by kernel_rfl) fa2 e0 e1 (nr_size (by omega))) ?_
            exact ⟨_, rfl, Chg.grown (s_grown _ _ _ _) (by rintro j h; cases h; rfl), nr_set fa2 _ (by omega) _⟩
          refine Flow.pass_val (.pointer (some ⟨g, (lo + j), none⟩)) (Flow.met_none rfl) (fun a W hH => ?_) ?_
          · have e0 := Flow.see_new 35 2 hH.sees (by kernel_rfl) (by kernel_rfl) rfl rfl
            have e1 := Flow.see_new 38 5 hH.sees (by kernel_rfl) (by kernel_rfl) rfl rfl
            exact s_ixS (s := 1) ((lo + j)) _ rfl Try.underlying72 (by kernel_rfl) (by first | exact e0 | simpa [Act.eval] using e0 | (simp [Act.eval])) (by first | exact e1 | simpa [Act.eval] using e1 | (simp [Act.eval])) (by omega) (by omega) (by omega)
          refine Flow.pass_gen (fun _ W => NR W g ((d2.setIfInBounds (lo) (d2[(lo + j)]!)).setIfInBounds ((lo + j)) (d2[lo]!)) R) (Flow.kept_of (fun _ _ _ c h => h.chg c id) (Flow.kz_cons (Flow.no_follow (by kernel_rfl)) (Flow.kz_cons (Flow.no_follow (by kernel_rfl)) Flow.kz_nil))) (Flow.met_none rfl) (fun a W hH => ?_) ?_
          · have e0 := Flow.see_new 50 18 hH.sees (by kernel_rfl) (by kernel_rfl) rfl rfl
            have e1 := Flow.see_new 48 15 hH.sees (by kernel_rfl) (by kernel_rfl) rfl rfl
            obtain ⟨_, hP⟩ := Flow.past_lin 17 hH.past (by kernel_rfl) (by kernel_rfl) rfl (by kernel_rfl)
            refine s_skip (s_store rfl (by kernel_rfl) hP e0 e1 (nr_size (by rw [Array.size_setIfInBounds]; omega))) ?_
            exact ⟨_, rfl, Chg.grown (s_grown _ _ _ _) (by rintro j h; cases h; rfl), nr_set hP _ (by rw [Array.size_setIfInBounds]; omega) _⟩
          refine Flow.pass_end [none, none, none, none, none, none, none, none, none, none, none, none, none, none, none, none, none, none, none, none, none, none, none, none, none, none, none, none, none, none, none, none, none, some 33, some 34, some 35, some 36, some 37, some 38, some 39, some 40, some 41, some 42, some 43, some 44, some 45, some 46, some 47, some 48, some 49, some 50, none, none, none, none, none] (by kernel_rfl) ?_
          intro f gg w9 hB hfa hT hfg
          have F3 : (fun W => Chg (OnlyG g) wr W) w9 := hfa _ (List.mem_of_getElem? (i := 3) rfl) (Nat.le_refl _)
          have hN_W6 : NR w9 g (Sort.swp d2 (lo) (lo + j)) R := hT 19 _ (by kernel_rfl) rfl
          have hC_W6 := hC_wr.trans F3
          simp only [Reg.sel]
          obtain ⟨W6, hWW6⟩ : ∃ W, W = w9 := ⟨_, rfl⟩
          subst hWW6
          clear hT hfg hfa hB F3
          have hcall := siftDown_walk g R (Sort.swp d2 lo (lo + j)) n cap 0 j lo (by rw [swp_size]; exact hn2) (by omega) (by omega) hn5 W6 hN_W6
          have hs3 : (Sort.swp d2 lo (lo + j)).size = n := by rw [swp_size]; exact hn2
          have hI3 : Hid (Sort.heapPop ltN lo j (Sort.siftDown ltN j lo 0 (Sort.swp d2 lo (lo + j))) = RES) := Lib.hid hI2.out
          go_wp2_with fail
          refine Calls.mono hcall ?_
          rintro e W7 ⟨rfl, d3, hd3, hN7, hC7⟩
          clear hcall
          go_wp2
          go_roundw
          case rel => first | exact ⟨j, d3, rfl, by omega, Lib.hid (by rw [hd3]; exact hI3.out), by rw [hd3, siftDown_size]; exact hs3, hN7, hC_W6.trans hC7⟩ | ((repeat apply Exists.intro); refine ⟨?_, rfl⟩; exact ⟨j, d3, rfl, by omega, Lib.hid (by rw [hd3]; exact hI3.out), by rw [hd3, siftDown_size]; exact hs3, hN7, hC_W6.trans hC7⟩)
          case measure => first | (simp [intOf]; done) | (simp [intOf]; omega) | (simp only [intOf]; omega)
        · obtain rfl : k = 0 := by omega
          have hRe : d2 = RES := hI2.out
          subst hRe
          go_wp2
          refine bodyPost_ret (results_none rfl _ _ _) rfl ?_
          exact ⟨rfl, d2, rfl, hN_wr, hC_wr⟩
end Go.Proofs.Ytjfmgoickokbjaa
