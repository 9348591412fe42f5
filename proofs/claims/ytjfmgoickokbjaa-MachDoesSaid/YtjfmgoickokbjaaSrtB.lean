/-
  Walk: slices.insertionSortOrdered at uint64.
-/
import Derived.Test.YtjfmgoickokbjaaSrtA
namespace Go.Proofs.Ytjfmgoickokbjaa
open Go.RowKit

theorem insInner_step {lo m : Nat} {d : Array Nat} (h : lo < m) (hq : ltN d[m]! d[m - 1]! = true) : Sort.insInner ltN lo m d = Sort.insInner ltN lo (m - 1) (Sort.swp d m (m - 1)) := by
  obtain ⟨j, rfl⟩ : ∃ j, m = j + 1 := ⟨m - 1, by omega⟩
  rw [Nat.add_sub_cancel] at *
  rw [Sort.insInner, hq]
  simp [h]
theorem insInner_stop {lo m : Nat} {d : Array Nat} (h : (decide (lo < m) && ltN d[m]! d[m - 1]!) = false) : Sort.insInner ltN lo m d = d := by
  match m, h with
  | 0, _ => rfl
  | j + 1, h =>
    rw [Nat.add_sub_cancel] at h
    rw [Sort.insInner, if_neg (by simpa using h)]
theorem insOuter_step {lo hi k : Nat} {d : Array Nat} (h : k < hi) : Sort.insOuter ltN lo hi k d = Sort.insOuter ltN lo hi (k + 1) (Sort.insInner ltN lo k d) := by rw [Sort.insOuter, if_pos h]
theorem insOuter_stop {lo hi k : Nat} {d : Array Nat} (h : ¬ k < hi) : Sort.insOuter ltN lo hi k d = d := by rw [Sort.insOuter, if_neg h]

set_option maxRecDepth 100000 in
set_option maxHeartbeats 2000000 in
theorem insertionSort_walk (g : Nat) (R : List Value) (d : Array Nat) (n cap lo hi : Nat) (hn : d.size = n) (hlo : lo ≤ hi) (hhi : hi ≤ n) (hn5 : n ≤ 1000000) (w : World) (hN : NR w g d R) :
    Calls Try.prog 71 #[.slice (some ⟨g, 0, none⟩) n cap, .int .i64 (lo : Int), .int .i64 (hi : Int)] w (SRet w g R fun d' => d' = Sort.insertionSort ltN d lo hi) := by
  obtain ⟨RES, hRES⟩ : ∃ X, Sort.insertionSort ltN d lo hi = X := ⟨_, rfl⟩
  rw [hRES]
  have h0 : Hid (Sort.insOuter ltN lo hi (lo + 1) d = RES) := Lib.hid hRES
  clear hRES
  go_enter Try.func71, Try.ntmps71
  go_wp2
  go_loopw [6] (fun i wr => ∃ (k : Nat) (d1 : Array Nat), lo + 1 ≤ k ∧ k ≤ n + 1 ∧ i = .int .i64 (k : Int) ∧ Hid (Sort.insOuter ltN lo hi k d1 = RES) ∧ d1.size = n ∧ NR wr g d1 R ∧ Chg (OnlyG g) w wr) (fun i _ => n + 2 - (intOf i).toNat)
  case atStart => exact ⟨lo + 1, d, Nat.le_refl _, by omega, by go_num, h0, hn, hN, Chg.refl _ _⟩
  case round =>
    obtain ⟨k, d1, hk1, hk2, rfl, hI, hn1, hN1, hC1⟩ := hrel
    by_cases hlt : k < hi
    · have hlti : (k : Int) < (hi : Int) := by omega
      go_wp2
      go_loopw [7] (fun j wr => ∃ (m : Nat) (d2 : Array Nat), m ≤ k ∧ j = .int .i64 (m : Int) ∧ Hid (Sort.insInner ltN lo m d2 = Sort.insInner ltN lo k d1) ∧ d2.size = n ∧ NR wr g d2 R ∧ Chg (OnlyG g) w wr) (fun j _ => (intOf j).toNat)
      case atStart => exact ⟨k, d1, Nat.le_refl _, rfl, Lib.hid rfl, hn1, hN1, hC1⟩
      case round =>
        obtain ⟨m, d2, hm, rfl, hI2, hn2, hN_wr, hC_wr⟩ := hrel
        go_upto_region 4 with (fail)
        refine s_cut [none, none, none, none, none, none, none, none, none, none, none, none, none, none, none, none, some 16, some 17, some 18, some 19, some 20, some 21, some 22, some 23, some 24, some 25, some 26, some 27, some 28, some 29, some 30, none, none, none, none, none, none, none, none, none, none, none, none, none, none, none, none, none, none] (fun f W => f 30 = .bool (decide (lo < m) && ltN d2[m]! d2[m - 1]!) ∧ Below wr.heap.size wr W) (fun Q1 hQ1 => ?_) ?_
        · by_cases hg : lo < m
          · skip
            refine Flow.wp_region_flow (wr.heap.size) [] [] (by kernel_rfl) (by kernel_rfl) (Nat.le_refl _) (fun _ h => by cases h) Flow.facts_nil ?_
            refine Flow.pass_old (X := .int .i64 ((m : Int))) 7 (Flow.met_none rfl) (.inl rfl) (by kernel_rfl) (by kernel_rfl) rfl ?_
            refine Flow.pass_old (X := .int .i64 ((lo : Int))) 1 (Flow.met_none rfl) (.inl rfl) (by kernel_rfl) (by kernel_rfl) rfl ?_
            refine Flow.pass_val (.bool true) (Flow.met_none rfl) (fun a W hH => ?_) ?_
            · have e0 := Flow.see_new 16 0 hH.sees (by kernel_rfl) (by kernel_rfl) rfl rfl
              have e1 := Flow.see_new 17 1 hH.sees (by kernel_rfl) (by kernel_rfl) rfl rfl
              go_simp; first | done | rfl | (simp; omega)
            refine Flow.pass_copy 18 2 (Flow.met_none rfl) (.inl rfl) (by kernel_rfl) (by kernel_rfl) rfl rfl (fun _ _ => Flow.kept_eqs _ _) ?_
            refine Flow.pass_old (X := .slice (some ⟨g, 0, none⟩) n cap) 0 (Flow.met_some 3 true 19 rfl rfl (by kernel_rfl) (by kernel_rfl) rfl rfl) (.inl rfl) (by kernel_rfl) (by kernel_rfl) rfl ?_
            refine Flow.pass_old (X := .int .i64 ((m : Int))) 7 (Flow.met_some 3 true 19 rfl rfl (by kernel_rfl) (by kernel_rfl) rfl rfl) (.inl rfl) (by kernel_rfl) (by kernel_rfl) rfl ?_
            refine Flow.pass_val (.pointer (some ⟨g, m, none⟩)) (Flow.met_some 3 true 19 rfl rfl (by kernel_rfl) (by kernel_rfl) rfl rfl) (fun a W hH => ?_) ?_
            · have e0 := Flow.see_new 20 4 hH.sees (by kernel_rfl) (by kernel_rfl) rfl rfl
              have e1 := Flow.see_new 21 5 hH.sees (by kernel_rfl) (by kernel_rfl) rfl rfl
              exact s_ixS (s := 1) (m) _ rfl Try.underlying72 (by kernel_rfl) (by first | exact e0 | simpa [Act.eval] using e0 | (simp [Act.eval])) (by first | exact e1 | simpa [Act.eval] using e1 | (simp [Act.eval])) (by omega) (by omega) (by omega)
            refine Flow.pass_val (.int .u64 ((d2[m]! : Nat) : Int)) (Flow.met_some 3 true 19 rfl rfl (by kernel_rfl) (by kernel_rfl) rfl rfl) (fun a W hH => ?_) ?_
            · have e0 := Flow.see_new 22 6 hH.sees (by kernel_rfl) (by kernel_rfl) rfl rfl
              have cc := nr_cell (hN_wr.below ((Below.refl wr.heap.size wr).drew.trans hH.below) hN_wr.lt) (m) (by omega); go_simp; first | done | rfl
            refine Flow.pass_old (X := .slice (some ⟨g, 0, none⟩) n cap) 0 (Flow.met_some 3 true 19 rfl rfl (by kernel_rfl) (by kernel_rfl) rfl rfl) (.inl rfl) (by kernel_rfl) (by kernel_rfl) rfl ?_
            refine Flow.pass_old (X := .int .i64 ((m : Int))) 7 (Flow.met_some 3 true 19 rfl rfl (by kernel_rfl) (by kernel_rfl) rfl rfl) (.inl rfl) (by kernel_rfl) (by kernel_rfl) rfl ?_
            refine Flow.pass_val (.int .i64 ((m : Int) - 1)) (Flow.met_some 3 true 19 rfl rfl (by kernel_rfl) (by kernel_rfl) rfl rfl) (fun a W hH => ?_) ?_
            · have e0 := Flow.see_new 25 9 hH.sees (by kernel_rfl) (by kernel_rfl) rfl rfl
              go_simp; first | done | rfl | (rw [IntWalk.i64_in _ (by omega)]; first | done | rfl | omega | (simp; done))
            refine Flow.pass_val (.pointer (some ⟨g, (m - 1), none⟩)) (Flow.met_some 3 true 19 rfl rfl (by kernel_rfl) (by kernel_rfl) rfl rfl) (fun a W hH => ?_) ?_
            · have e0 := Flow.see_new 24 8 hH.sees (by kernel_rfl) (by kernel_rfl) rfl rfl
              have e1 := Flow.see_new 26 10 hH.sees (by kernel_rfl) (by kernel_rfl) rfl rfl
              exact s_ixS (s := 1) ((m - 1)) _ rfl Try.underlying72 (by kernel_rfl) (by first | exact e0 | simpa [Act.eval] using e0 | (simp [Act.eval])) (by first | exact e1 | simpa [Act.eval] using e1 | (simp [Act.eval])) (by omega) (by omega) (by omega)
            refine Flow.pass_val (.int .u64 ((d2[(m - 1)]! : Nat) : Int)) (Flow.met_some 3 true 19 rfl rfl (by kernel_rfl) (by kernel_rfl) rfl rfl) (fun a W hH => ?_) ?_
            · have e0 := Flow.see_new 27 11 hH.sees (by kernel_rfl) (by kernel_rfl) rfl rfl
              have cc := nr_cell (hN_wr.below ((Below.refl wr.heap.size wr).drew.trans hH.below) hN_wr.lt) ((m - 1)) (by omega); go_simp; first | done | rfl
            refine Flow.pass_step (Reg.eqs (.bool (ltN (d2[m]!) (d2[(m - 1)]!)))) (fun _ _ => Flow.kept_eqs _ _) (Flow.met_some 3 true 19 rfl rfl (by kernel_rfl) (by kernel_rfl) rfl rfl) (fun a W hH => ?_) ?_
            · have e0 := Flow.see_new 23 7 hH.sees (by kernel_rfl) (by kernel_rfl) rfl rfl
              have e1 := Flow.see_new 28 12 hH.sees (by kernel_rfl) (by kernel_rfl) rfl rfl
              refine Reg.wp_call rfl Try.func77 rfl (by kernel_rfl) (by simp [Act.eval, e0, e1]) (lessN (d2[m]!) (d2[(m - 1)]!) W) ?_
              rintro e w' ⟨rfl, rfl⟩
              exact ⟨_, rfl, _, rfl, Ext.refl _, rfl⟩
            refine Flow.pass_val (.bool (ltN (d2[m]!) (d2[(m - 1)]!))) (Flow.met_none rfl) (fun a W hH => ?_) ?_
            · have e0 := Flow.see_new 19 3 hH.sees (by kernel_rfl) (by kernel_rfl) rfl rfl
              have e1 := Flow.see_new 29 13 hH.sees (by kernel_rfl) (by kernel_rfl) rfl rfl
              go_simp; first | done | rfl
            refine Flow.pass_end [none, none, none, none, none, none, none, none, none, none, none, none, none, none, none, none, some 16, some 17, some 18, some 19, some 20, some 21, some 22, some 23, some 24, some 25, some 26, some 27, some 28, some 29, some 30, none, none, none, none, none, none, none, none, none, none, none, none, none, none, none, none, none, none] (by kernel_rfl) ?_
            intro f gg w9 hB hfa hT hfg
            have h30 : f 30 = _ := (hfg 30 14 (by kernel_rfl)).trans (hT 14 _ (by kernel_rfl) rfl)
            exact hQ1 f w9 ⟨by rw [h30, decide_eq_true hg, Bool.true_and], (Below.refl wr.heap.size wr).drew.trans hB⟩
          · skip
            refine Flow.wp_region_flow (wr.heap.size) [] [] (by kernel_rfl) (by kernel_rfl) (Nat.le_refl _) (fun _ h => by cases h) Flow.facts_nil ?_
            refine Flow.pass_old (X := .int .i64 ((m : Int))) 7 (Flow.met_none rfl) (.inl rfl) (by kernel_rfl) (by kernel_rfl) rfl ?_
            refine Flow.pass_old (X := .int .i64 ((lo : Int))) 1 (Flow.met_none rfl) (.inl rfl) (by kernel_rfl) (by kernel_rfl) rfl ?_
            refine Flow.pass_val (.bool false) (Flow.met_none rfl) (fun a W hH => ?_) ?_
            · have e0 := Flow.see_new 16 0 hH.sees (by kernel_rfl) (by kernel_rfl) rfl rfl
              have e1 := Flow.see_new 17 1 hH.sees (by kernel_rfl) (by kernel_rfl) rfl rfl
              go_simp; first | done | rfl | (simp; omega)
            refine Flow.pass_copy 18 2 (Flow.met_none rfl) (.inl rfl) (by kernel_rfl) (by kernel_rfl) rfl rfl (fun _ _ => Flow.kept_eqs _ _) ?_
            refine Flow.pass_skip (fun a W hH => Flow.not_wanted 3 true 19 hH rfl rfl (by kernel_rfl) (by kernel_rfl) rfl rfl) ?_
            refine Flow.pass_skip (fun a W hH => Flow.not_wanted 3 true 19 hH rfl rfl (by kernel_rfl) (by kernel_rfl) rfl rfl) ?_
            refine Flow.pass_skip (fun a W hH => Flow.not_wanted 3 true 19 hH rfl rfl (by kernel_rfl) (by kernel_rfl) rfl rfl) ?_
            refine Flow.pass_skip (fun a W hH => Flow.not_wanted 3 true 19 hH rfl rfl (by kernel_rfl) (by kernel_rfl) rfl rfl) ?_
            refine Flow.pass_skip (fun a W hH => Flow.not_wanted 3 true 19 hH rfl rfl (by kernel_rfl) (by kernel_rfl) rfl rfl) ?_
            refine Flow.pass_skip (fun a W hH => Flow.not_wanted 3 true 19 hH rfl rfl (by kernel_rfl) (by kernel_rfl) rfl rfl) ?_
            refine Flow.pass_skip (fun a W hH => Flow.not_wanted 3 true 19 hH rfl rfl (by kernel_rfl) (by kernel_rfl) rfl rfl) ?_
            refine Flow.pass_skip (fun a W hH => Flow.not_wanted 3 true 19 hH rfl rfl (by kernel_rfl) (by kernel_rfl) rfl rfl) ?_
            refine Flow.pass_skip (fun a W hH => Flow.not_wanted 3 true 19 hH rfl rfl (by kernel_rfl) (by kernel_rfl) rfl rfl) ?_
            refine Flow.pass_skip (fun a W hH => Flow.not_wanted 3 true 19 hH rfl rfl (by kernel_rfl) (by kernel_rfl) rfl rfl) ?_
            refine Flow.pass_val (.bool false) (Flow.met_none rfl) (fun a W hH => ?_) ?_
            · have e0 := Flow.see_new 19 3 hH.sees (by kernel_rfl) (by kernel_rfl) rfl rfl
              have e1 := Flow.see_new 29 13 hH.sees (by kernel_rfl) (by kernel_rfl) rfl rfl
              go_simp; first | done | rfl
            refine Flow.pass_end [none, none, none, none, none, none, none, none, none, none, none, none, none, none, none, none, some 16, some 17, some 18, some 19, some 20, some 21, some 22, some 23, some 24, some 25, some 26, some 27, some 28, some 29, some 30, none, none, none, none, none, none, none, none, none, none, none, none, none, none, none, none, none, none] (by kernel_rfl) ?_
            intro f gg w9 hB hfa hT hfg
            have h30 : f 30 = _ := (hfg 30 14 (by kernel_rfl)).trans (hT 14 _ (by kernel_rfl) rfl)
            exact hQ1 f w9 ⟨by rw [h30, decide_eq_false hg, Bool.false_and], (Below.refl wr.heap.size wr).drew.trans hB⟩
        intro f W5 ⟨h30, hBW5⟩
        simp only [Reg.sel, h30]
        have hN_W5 := Blk.below hN_wr hBW5 (Blk.lt hN_wr)
        have hC_W5 := hC_wr.trans (Chg.of_ext hBW5)
        clear h30 hBW5
        cases hq : (decide (lo < m) && ltN d2[m]! d2[m - 1]!) with
        | true =>
          simp only [Bool.and_eq_true, decide_eq_true_eq] at hq
          have hst := Lib.hid (insInner_step hq.1 hq.2)
          have hm1 := hq.1
          clear hq
          go_upto_region 6 with (fail)
          refine Flow.wp_region_flow (g) [(15, fun b => b = g), (17, fun b => b = g)] [(9, fun W => NR W g d2 R), (13, fun W => NR W g d2 R), (15, fun W => NR W g d2 R), (18, fun W => Chg (OnlyG g) W5 W)] (by kernel_rfl) (by kernel_rfl) (Nat.le_of_lt hN_W5.lt) (Flow.nz_cons (by rintro b rfl; exact Nat.le_refl _) (Flow.nz_cons (by rintro b rfl; exact Nat.le_refl _) Flow.nz_nil)) (Flow.facts_cons (hN_W5.drew) (Flow.kept_blk id) (Flow.fz_cons (Flow.no_follow (by kernel_rfl)) (Flow.fz_cons (Flow.no_follow (by kernel_rfl)) Flow.fz_nil)) (Flow.facts_cons (hN_W5.drew) (Flow.kept_blk id) (Flow.fz_cons (Flow.no_follow (by kernel_rfl)) (Flow.fz_cons (Flow.no_follow (by kernel_rfl)) Flow.fz_nil)) (Flow.facts_cons (hN_W5.drew) (Flow.kept_blk id) (Flow.fz_cons (Flow.no_follow (by kernel_rfl)) (Flow.fz_cons (Flow.no_follow (by kernel_rfl)) Flow.fz_nil)) (Flow.facts_cons ((Chg.refl _ _).drew) (fun _ _ c h => onlyg_trans h c (by first | exact fun _ hj => hj | exact fun _ hj => hj.elim)) (Flow.fz_cons (fun _ => fun _ _ c h => onlyg_trans h c (by first | exact fun _ hj => hj | exact fun _ hj => hj.elim)) (Flow.fz_cons (fun _ => fun _ _ c h => onlyg_trans h c (by first | exact fun _ hj => hj | exact fun _ hj => hj.elim)) Flow.fz_nil)) Flow.facts_nil)))) ?_
          refine Flow.pass_old (X := .slice (some ⟨g, 0, none⟩) n cap) 0 (Flow.met_none rfl) (.inl rfl) (by kernel_rfl) (by kernel_rfl) rfl ?_
          refine Flow.pass_old (X := .int .i64 ((m : Int))) 7 (Flow.met_none rfl) (.inl rfl) (by kernel_rfl) (by kernel_rfl) rfl ?_
          refine Flow.pass_old (X := .slice (some ⟨g, 0, none⟩) n cap) 0 (Flow.met_none rfl) (.inl rfl) (by kernel_rfl) (by kernel_rfl) rfl ?_
          refine Flow.pass_old (X := .int .i64 ((m : Int))) 7 (Flow.met_none rfl) (.inl rfl) (by kernel_rfl) (by kernel_rfl) rfl ?_
          refine Flow.pass_val (.int .i64 ((m : Int) - 1)) (Flow.met_none rfl) (fun a W hH => ?_) ?_
          · have e0 := Flow.see_new 36 3 hH.sees (by kernel_rfl) (by kernel_rfl) rfl rfl
            go_simp; first | done | rfl | (rw [IntWalk.i64_in _ (by omega)]; first | done | rfl | omega | (simp; done))
          refine Flow.pass_old (X := .slice (some ⟨g, 0, none⟩) n cap) 0 (Flow.met_none rfl) (.inl rfl) (by kernel_rfl) (by kernel_rfl) rfl ?_
          refine Flow.pass_old (X := .int .i64 ((m : Int))) 7 (Flow.met_none rfl) (.inl rfl) (by kernel_rfl) (by kernel_rfl) rfl ?_
          refine Flow.pass_val (.int .i64 ((m : Int) - 1)) (Flow.met_none rfl) (fun a W hH => ?_) ?_
          · have e0 := Flow.see_new 39 6 hH.sees (by kernel_rfl) (by kernel_rfl) rfl rfl
            go_simp; first | done | rfl | (rw [IntWalk.i64_in _ (by omega)]; first | done | rfl | omega | (simp; done))
          refine Flow.pass_val (.pointer (some ⟨g, (m - 1), none⟩)) (Flow.met_none rfl) (fun a W hH => ?_) ?_
          · have e0 := Flow.see_new 38 5 hH.sees (by kernel_rfl) (by kernel_rfl) rfl rfl
            have e1 := Flow.see_new 40 7 hH.sees (by kernel_rfl) (by kernel_rfl) rfl rfl
            exact s_ixS (s := 1) ((m - 1)) _ rfl Try.underlying72 (by kernel_rfl) (by first | exact e0 | simpa [Act.eval] using e0 | (simp [Act.eval])) (by first | exact e1 | simpa [Act.eval] using e1 | (simp [Act.eval])) (by omega) (by omega) (by omega)
          refine Flow.pass_val (.int .u64 ((d2[(m - 1)]! : Nat) : Int)) (Flow.met_none rfl) (fun a W hH => ?_) ?_
          · have e0 := Flow.see_new 41 8 hH.sees (by kernel_rfl) (by kernel_rfl) rfl rfl
            have fa0 : (fun W => NR W g d2 R) W := hH.fact _ (List.mem_of_getElem? (i := 0) rfl) rfl
            have cc := nr_cell fa0 ((m - 1)) (by omega); go_simp; first | done | rfl
          refine Flow.pass_old (X := .slice (some ⟨g, 0, none⟩) n cap) 0 (Flow.met_none rfl) (.inl rfl) (by kernel_rfl) (by kernel_rfl) rfl ?_
          refine Flow.pass_old (X := .int .i64 ((m : Int))) 7 (Flow.met_none rfl) (.inl rfl) (by kernel_rfl) (by kernel_rfl) rfl ?_
          refine Flow.pass_val (.pointer (some ⟨g, m, none⟩)) (Flow.met_none rfl) (fun a W hH => ?_) ?_
          · have e0 := Flow.see_new 43 10 hH.sees (by kernel_rfl) (by kernel_rfl) rfl rfl
            have e1 := Flow.see_new 44 11 hH.sees (by kernel_rfl) (by kernel_rfl) rfl rfl
            exact s_ixS (s := 1) (m) _ rfl Try.underlying72 (by kernel_rfl) (by first | exact e0 | simpa [Act.eval] using e0 | (simp [Act.eval])) (by first | exact e1 | simpa [Act.eval] using e1 | (simp [Act.eval])) (by omega) (by omega) (by omega)
          refine Flow.pass_val (.int .u64 ((d2[m]! : Nat) : Int)) (Flow.met_none rfl) (fun a W hH => ?_) ?_
          · have e0 := Flow.see_new 45 12 hH.sees (by kernel_rfl) (by kernel_rfl) rfl rfl
            have fa1 : (fun W => NR W g d2 R) W := hH.fact _ (List.mem_of_getElem? (i := 1) rfl) rfl
            have cc := nr_cell fa1 (m) (by omega); go_simp; first | done | rfl
          refine Flow.pass_val (.pointer (some ⟨g, m, none⟩)) (Flow.met_none rfl) (fun a W hH => ?_) ?_
          · have e0 := Flow.see_new 33 0 hH.sees (by kernel_rfl) (by kernel_rfl) rfl rfl
            have e1 := Flow.see_new 34 1 hH.sees (by kernel_rfl) (by kernel_rfl) rfl rfl
            exact s_ixS (s := 1) (m) _ rfl Try.underlying72 (by kernel_rfl) (by first | exact e0 | simpa [Act.eval] using e0 | (simp [Act.eval])) (by first | exact e1 | simpa [Act.eval] using e1 | (simp [Act.eval])) (by omega) (by omega) (by omega)
          refine Flow.pass_lin [17] (fun _ W => NR W g (d2.setIfInBounds (m) (d2[(m - 1)]!)) R) (Flow.kept_lin [17] (fun _ _ _ c h => h.chg c id) (Flow.lz_cons (Flow.no_follow (by kernel_rfl)) (Flow.lz_cons (fun _ => .inl rfl) Flow.lz_nil))) (Flow.met_none rfl) (fun a W hH => ?_) ?_
          · have e0 := Flow.see_new 47 14 hH.sees (by kernel_rfl) (by kernel_rfl) rfl rfl
            have e1 := Flow.see_new 42 9 hH.sees (by kernel_rfl) (by kernel_rfl) rfl rfl
            have fa2 : (fun W => NR W g d2 R) W := hH.fact _ (List.mem_of_getElem? (i := 2) rfl) rfl
            refine s_skip (s_store rfl (by kernel_rfl) fa2 e0 e1 (nr_size (by omega))) ?_
            exact ⟨_, rfl, Chg.grown (s_grown _ _ _ _) (by rintro j h; cases h; rfl), nr_set fa2 _ (by omega) _⟩
          refine Flow.pass_val (.pointer (some ⟨g, (m - 1), none⟩)) (Flow.met_none rfl) (fun a W hH => ?_) ?_
          · have e0 := Flow.see_new 35 2 hH.sees (by kernel_rfl) (by kernel_rfl) rfl rfl
            have e1 := Flow.see_new 37 4 hH.sees (by kernel_rfl) (by kernel_rfl) rfl rfl
            exact s_ixS (s := 1) ((m - 1)) _ rfl Try.underlying72 (by kernel_rfl) (by first | exact e0 | simpa [Act.eval] using e0 | (simp [Act.eval])) (by first | exact e1 | simpa [Act.eval] using e1 | (simp [Act.eval])) (by omega) (by omega) (by omega)
          refine Flow.pass_gen (fun _ W => NR W g ((d2.setIfInBounds (m) (d2[(m - 1)]!)).setIfInBounds ((m - 1)) (d2[m]!)) R) (Flow.kept_of (fun _ _ _ c h => h.chg c id) (Flow.kz_cons (Flow.no_follow (by kernel_rfl)) (Flow.kz_cons (Flow.no_follow (by kernel_rfl)) Flow.kz_nil))) (Flow.met_none rfl) (fun a W hH => ?_) ?_
          · have e0 := Flow.see_new 48 16 hH.sees (by kernel_rfl) (by kernel_rfl) rfl rfl
            have e1 := Flow.see_new 46 13 hH.sees (by kernel_rfl) (by kernel_rfl) rfl rfl
            obtain ⟨_, hP⟩ := Flow.past_lin 15 hH.past (by kernel_rfl) (by kernel_rfl) rfl (by kernel_rfl)
            refine s_skip (s_store rfl (by kernel_rfl) hP e0 e1 (nr_size (by rw [Array.size_setIfInBounds]; omega))) ?_
            exact ⟨_, rfl, Chg.grown (s_grown _ _ _ _) (by rintro j h; cases h; rfl), nr_set hP _ (by rw [Array.size_setIfInBounds]; omega) _⟩
          refine Flow.pass_end [none, none, none, none, none, none, none, none, none, none, none, none, none, none, none, none, none, none, none, none, none, none, none, none, none, none, none, none, none, none, none, none, none, some 33, some 34, some 35, some 36, some 37, some 38, some 39, some 40, some 41, some 42, some 43, some 44, some 45, some 46, some 47, some 48] (by kernel_rfl) ?_
          intro f gg w9 hB hfa hT hfg
          have F3 : (fun W => Chg (OnlyG g) W5 W) w9 := hfa _ (List.mem_of_getElem? (i := 3) rfl) (Nat.le_refl _)
          have hN_W6 : NR w9 g (Sort.swp d2 (m) (m - 1)) R := hT 17 _ (by kernel_rfl) rfl
          have hC_W6 := hC_W5.trans F3
          simp only [Reg.sel]
          obtain ⟨W6, hWW6⟩ : ∃ W, W = w9 := ⟨_, rfl⟩
          subst hWW6
          clear hT hfg hfa hB F3
          go_wp2
          go_roundw
          case rel => first | exact ⟨m - 1, _, by omega, by go_num, Lib.hid (by rw [← hst.out]; exact hI2.out), by rw [swp_size]; exact hn2, hN_W6, hC_W6⟩ | ((repeat apply Exists.intro); refine ⟨?_, rfl⟩; exact ⟨m - 1, _, by omega, by go_num, Lib.hid (by rw [← hst.out]; exact hI2.out), by rw [swp_size]; exact hn2, hN_W6, hC_W6⟩)
          case measure => first | (simp [intOf]; done) | (simp [intOf]; omega) | (simp only [intOf]; omega)
        | false =>
          have hstop := Lib.hid (insInner_stop hq)
          clear hq
          go_wp2
          go_roundw
          case rel => first | exact ⟨k + 1, d2, by omega, by omega, by go_num, Lib.hid (by rw [← hI.out, insOuter_step hlt, ← hI2.out, hstop.out]), hn2, hN_W5, hC_W5⟩ | ((repeat apply Exists.intro); refine ⟨?_, rfl⟩; exact ⟨k + 1, d2, by omega, by omega, by go_num, Lib.hid (by rw [← hI.out, insOuter_step hlt, ← hI2.out, hstop.out]), hn2, hN_W5, hC_W5⟩)
          case measure => first | (simp [intOf]; done) | (simp [intOf]; omega) | (simp only [intOf]; omega)
    · have hlti : ¬ (k : Int) < (hi : Int) := by omega
      go_wp2
      refine bodyPost_ret (results_none rfl _ _ _) rfl ?_
      exact ⟨rfl, d1, by rw [← hI.out, insOuter_stop hlt], hN1, hC1⟩
end Go.Proofs.Ytjfmgoickokbjaa
