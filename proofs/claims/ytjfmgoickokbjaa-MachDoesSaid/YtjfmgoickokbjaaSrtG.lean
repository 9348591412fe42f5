/-
  Walk: partitionEqualOrdered at uint64.
-/
import Derived.Test.YtjfmgoickokbjaaSrtF
namespace Go.Proofs.Ytjfmgoickokbjaa
open Go.RowKit

set_option maxRecDepth 100000 in
set_option maxHeartbeats 4000000 in
theorem partitionEqual_walk (g : Nat) (R : List Value) (d : Array Nat) (n cap lo hi pv : Nat) (hn : d.size = n) (hlo : lo ≤ pv) (hpv : pv < hi) (hhi : hi ≤ n) (hn5 : n ≤ 1000000) (w : World) (hN_w : NR w g d R) :
    Calls Try.prog 78 #[.slice (some ⟨g, 0, none⟩) n cap, .int .i64 (lo : Int), .int .i64 (hi : Int), .int .i64 (pv : Int)] w fun e w' =>
      e = .returned (.int .i64 (((Sort.partitionEqual ltN d lo hi pv).1 : Nat) : Int)) ∧ NR w' g (Sort.partitionEqual ltN d lo hi pv).2 R ∧ Chg (OnlyG g) w w' := by
  obtain ⟨RES, hRES⟩ : ∃ X, Sort.partitionEqual ltN d lo hi pv = X := ⟨_, rfl⟩
  rw [hRES]
  obtain ⟨d1, hd1⟩ : ∃ X, Sort.swp d lo pv = X := ⟨_, rfl⟩
  obtain ⟨jj, hjj⟩ : ∃ j, hi - 1 = j := ⟨_, rfl⟩
  have HPL0 : Hid (Sort.partEqLoop ltN lo (lo + 1) jj d1 = RES) := Lib.hid (by rw [← hRES, ← hd1, ← hjj]; rfl)
  have hC_w := Chg.refl (OnlyG g) w
  have hn1 : d1.size = n := by rw [← hd1, swp_size]; exact hn
  clear hRES
  go_enter Try.func78, Try.ntmps78
  go_wp2_with fail
  refine Flow.wp_region_flow (g) [(13, fun b => b = g), (15, fun b => b = g)] [(7, fun W => NR W g d R), (11, fun W => NR W g d R), (13, fun W => NR W g d R), (16, fun W => Chg (OnlyG g) w W)] (by kernel_rfl) (by kernel_rfl) (Nat.le_of_lt hN_w.lt) (Flow.nz_cons (by rintro b rfl; exact Nat.le_refl _) (Flow.nz_cons (by rintro b rfl; exact Nat.le_refl _) Flow.nz_nil)) (Flow.facts_cons (hN_w.drew) (Flow.kept_blk id) (Flow.fz_cons (Flow.no_follow (by kernel_rfl)) (Flow.fz_cons (Flow.no_follow (by kernel_rfl)) Flow.fz_nil)) (Flow.facts_cons (hN_w.drew) (Flow.kept_blk id) (Flow.fz_cons (Flow.no_follow (by kernel_rfl)) (Flow.fz_cons (Flow.no_follow (by kernel_rfl)) Flow.fz_nil)) (Flow.facts_cons (hN_w.drew) (Flow.kept_blk id) (Flow.fz_cons (Flow.no_follow (by kernel_rfl)) (Flow.fz_cons (Flow.no_follow (by kernel_rfl)) Flow.fz_nil)) (Flow.facts_cons ((Chg.refl _ _).drew) (fun _ _ c h => onlyg_trans h c (by first | exact fun _ hj => hj | exact fun _ hj => hj.elim)) (Flow.fz_cons (fun _ => fun _ _ c h => onlyg_trans h c (by first | exact fun _ hj => hj | exact fun _ hj => hj.elim)) (Flow.fz_cons (fun _ => fun _ _ c h => onlyg_trans h c (by first | exact fun _ hj => hj | exact fun _ hj => hj.elim)) Flow.fz_nil)) Flow.facts_nil)))) ?_
  refine Flow.pass_old (X := .slice (some ⟨g, 0, none⟩) n cap) 0 (Flow.met_none rfl) (.inl rfl) (by kernel_rfl) (by kernel_rfl) rfl ?_
  refine Flow.pass_old (X := .int .i64 ((lo : Int))) 1 (Flow.met_none rfl) (.inl rfl) (by kernel_rfl) (by kernel_rfl) rfl ?_
  refine Flow.pass_old (X := .slice (some ⟨g, 0, none⟩) n cap) 0 (Flow.met_none rfl) (.inl rfl) (by kernel_rfl) (by kernel_rfl) rfl ?_
  refine Flow.pass_old (X := .int .i64 ((pv : Int))) 3 (Flow.met_none rfl) (.inl rfl) (by kernel_rfl) (by kernel_rfl) rfl ?_
  refine Flow.pass_old (X := .slice (some ⟨g, 0, none⟩) n cap) 0 (Flow.met_none rfl) (.inl rfl) (by kernel_rfl) (by kernel_rfl) rfl ?_
  refine Flow.pass_old (X := .int .i64 ((pv : Int))) 3 (Flow.met_none rfl) (.inl rfl) (by kernel_rfl) (by kernel_rfl) rfl ?_
  refine Flow.pass_val (.pointer (some ⟨g, pv, none⟩)) (Flow.met_none rfl) (fun a W hH => ?_) ?_
  · have e0 := Flow.see_new 15 4 hH.sees (by kernel_rfl) (by kernel_rfl) rfl rfl
    have e1 := Flow.see_new 16 5 hH.sees (by kernel_rfl) (by kernel_rfl) rfl rfl
    exact s_ixS (s := 1) (pv) _ rfl Try.underlying72 (by kernel_rfl) (by first | exact e0 | simpa [Act.eval] using e0 | (simp [Act.eval])) (by first | exact e1 | simpa [Act.eval] using e1 | (simp [Act.eval])) (by omega) (by omega) (by omega)
  refine Flow.pass_val (.int .u64 ((d[pv]! : Nat) : Int)) (Flow.met_none rfl) (fun a W hH => ?_) ?_
  · have e0 := Flow.see_new 17 6 hH.sees (by kernel_rfl) (by kernel_rfl) rfl rfl
    have fa0 : (fun W => NR W g d R) W := hH.fact _ (List.mem_of_getElem? (i := 0) rfl) rfl
    have cc := nr_cell fa0 (pv) (by omega); go_simp; first | done | rfl
  refine Flow.pass_old (X := .slice (some ⟨g, 0, none⟩) n cap) 0 (Flow.met_none rfl) (.inl rfl) (by kernel_rfl) (by kernel_rfl) rfl ?_
  refine Flow.pass_old (X := .int .i64 ((lo : Int))) 1 (Flow.met_none rfl) (.inl rfl) (by kernel_rfl) (by kernel_rfl) rfl ?_
  refine Flow.pass_val (.pointer (some ⟨g, lo, none⟩)) (Flow.met_none rfl) (fun a W hH => ?_) ?_
  · have e0 := Flow.see_new 19 8 hH.sees (by kernel_rfl) (by kernel_rfl) rfl rfl
    have e1 := Flow.see_new 20 9 hH.sees (by kernel_rfl) (by kernel_rfl) rfl rfl
    exact s_ixS (s := 1) (lo) _ rfl Try.underlying72 (by kernel_rfl) (by first | exact e0 | simpa [Act.eval] using e0 | (simp [Act.eval])) (by first | exact e1 | simpa [Act.eval] using e1 | (simp [Act.eval])) (by omega) (by omega) (by omega)
  refine Flow.pass_val (.int .u64 ((d[lo]! : Nat) : Int)) (Flow.met_none rfl) (fun a W hH => ?_) ?_
  · have e0 := Flow.see_new 21 10 hH.sees (by kernel_rfl) (by kernel_rfl) rfl rfl
    have fa1 : (fun W => NR W g d R) W := hH.fact _ (List.mem_of_getElem? (i := 1) rfl) rfl
    have cc := nr_cell fa1 (lo) (by omega); go_simp; first | done | rfl
  refine Flow.pass_val (.pointer (some ⟨g, lo, none⟩)) (Flow.met_none rfl) (fun a W hH => ?_) ?_
  · have e0 := Flow.see_new 11 0 hH.sees (by kernel_rfl) (by kernel_rfl) rfl rfl
    have e1 := Flow.see_new 12 1 hH.sees (by kernel_rfl) (by kernel_rfl) rfl rfl
    exact s_ixS (s := 1) (lo) _ rfl Try.underlying72 (by kernel_rfl) (by first | exact e0 | simpa [Act.eval] using e0 | (simp [Act.eval])) (by first | exact e1 | simpa [Act.eval] using e1 | (simp [Act.eval])) (by omega) (by omega) (by omega)
  refine Flow.pass_lin [15] (fun _ W => NR W g (d.setIfInBounds (lo) (d[pv]!)) R) (Flow.kept_lin [15] (fun _ _ _ c h => h.chg c id) (Flow.lz_cons (Flow.no_follow (by kernel_rfl)) (Flow.lz_cons (fun _ => .inl rfl) Flow.lz_nil))) (Flow.met_none rfl) (fun a W hH => ?_) ?_
  · have e0 := Flow.see_new 23 12 hH.sees (by kernel_rfl) (by kernel_rfl) rfl rfl
    have e1 := Flow.see_new 18 7 hH.sees (by kernel_rfl) (by kernel_rfl) rfl rfl
    have fa2 : (fun W => NR W g d R) W := hH.fact _ (List.mem_of_getElem? (i := 2) rfl) rfl
    refine s_skip (s_store rfl (by kernel_rfl) fa2 e0 e1 (nr_size (by omega))) ?_
    exact ⟨_, rfl, Chg.grown (s_grown _ _ _ _) (by rintro j h; cases h; rfl), nr_set fa2 _ (by omega) _⟩
  refine Flow.pass_val (.pointer (some ⟨g, pv, none⟩)) (Flow.met_none rfl) (fun a W hH => ?_) ?_
  · have e0 := Flow.see_new 13 2 hH.sees (by kernel_rfl) (by kernel_rfl) rfl rfl
    have e1 := Flow.see_new 14 3 hH.sees (by kernel_rfl) (by kernel_rfl) rfl rfl
    exact s_ixS (s := 1) (pv) _ rfl Try.underlying72 (by kernel_rfl) (by first | exact e0 | simpa [Act.eval] using e0 | (simp [Act.eval])) (by first | exact e1 | simpa [Act.eval] using e1 | (simp [Act.eval])) (by omega) (by omega) (by omega)
  refine Flow.pass_gen (fun _ W => NR W g ((d.setIfInBounds (lo) (d[pv]!)).setIfInBounds (pv) (d[lo]!)) R) (Flow.kept_of (fun _ _ _ c h => h.chg c id) (Flow.kz_cons (Flow.no_follow (by kernel_rfl)) (Flow.kz_cons (Flow.no_follow (by kernel_rfl)) Flow.kz_nil))) (Flow.met_none rfl) (fun a W hH => ?_) ?_
  · have e0 := Flow.see_new 24 14 hH.sees (by kernel_rfl) (by kernel_rfl) rfl rfl
    have e1 := Flow.see_new 22 11 hH.sees (by kernel_rfl) (by kernel_rfl) rfl rfl
    obtain ⟨_, hP⟩ := Flow.past_lin 13 hH.past (by kernel_rfl) (by kernel_rfl) rfl (by kernel_rfl)
    refine s_skip (s_store rfl (by kernel_rfl) hP e0 e1 (nr_size (by rw [Array.size_setIfInBounds]; omega))) ?_
    exact ⟨_, rfl, Chg.grown (s_grown _ _ _ _) (by rintro j h; cases h; rfl), nr_set hP _ (by rw [Array.size_setIfInBounds]; omega) _⟩
  refine Flow.pass_end [none, none, none, none, none, none, none, none, none, none, none, some 11, some 12, some 13, some 14, some 15, some 16, some 17, some 18, some 19, some 20, some 21, some 22, some 23, some 24, none, none, none, none, none, none, none, none, none, none, none, none, none, none, none, none, none, none, none, none, none, none, none, none, none, none, none, none, none, none, none, none, none, none, none, none, none, none, none, none, none, none, none, none, none, none, none, none, none, none, none, none, none, none, none, none, none, none, none] (by kernel_rfl) ?_
  intro f gg w9 hB hfa hT hfg
  have F3 : (fun W => Chg (OnlyG g) w W) w9 := hfa _ (List.mem_of_getElem? (i := 3) rfl) (Nat.le_refl _)
  have hN_W5 : NR w9 g (Sort.swp d (lo) (pv)) R := hT 15 _ (by kernel_rfl) rfl
  have hC_W5 := hC_w.trans F3
  simp only [Reg.sel]
  obtain ⟨W5, hWW5⟩ : ∃ W, W = w9 := ⟨_, rfl⟩
  subst hWW5
  clear hT hfg hfa hB F3
  rw [hd1] at hN_W5
  have hjw : IntKind.i64.wrap ((hi : Int) - 1) = (jj : Int) := by rw [IntWalk.i64_in _ (by omega)]; omega
  have hjj2 : jj < hi := by omega
  have HJJ := Lib.hid hjj
  clear hd1 hjj hN_w
  go_wp2
  go_loopw [9, 10] (fun i j wr => ∃ (x0 y0 : Nat) (d2 : Array Nat), lo + 1 ≤ x0 ∧ x0 ≤ hi ∧ y0 < hi ∧ i = .int .i64 (x0 : Int) ∧ j = .int .i64 (y0 : Int) ∧ Hid (Sort.partEqLoop ltN lo x0 y0 d2 = RES) ∧ d2.size = n ∧ NR wr g d2 R ∧ Chg (OnlyG g) w wr) (fun i j _ => (intOf j + 1 - intOf i).toNat)
  case atStart => exact ⟨lo + 1, jj, d1, by omega, by omega, by omega, by first | rfl | go_num, by first | rfl | go_num, HPL0, hn1, hN_W5, hC_W5⟩
  case round =>
    obtain ⟨x0, y0, d2, hx0, hx0h, hy0, rfl, rfl, hPL, hn2, hN_wr, hC_wr⟩ := hrel
    obtain ⟨IU, hIU⟩ : ∃ u, Sort.scanUp (fun x => !ltN d2[lo]! x) d2 y0 x0 = u := ⟨_, rfl⟩
    have hIU := Lib.hid hIU
    try go_wp2
    go_loopw [9] (fun i wr => ∃ x : Nat, x0 ≤ x ∧ x ≤ hi ∧ i = .int .i64 (x : Int) ∧ Hid (Sort.scanUp (fun x => !ltN d2[lo]! x) d2 y0 x = IU) ∧ NR wr g d2 R ∧ Chg (OnlyG g) w wr) (fun i _ => hi + 1 - (intOf i).toNat)
    case atStart => exact ⟨x0, Nat.le_refl _, by omega, by first | rfl | go_num, hIU, hN_wr, hC_wr⟩
    case round =>
      obtain ⟨x, hx1, hx2, rfl, hS, hN_wr, hC_wr⟩ := hrel
      go_upto_region 3 with (fail)
      refine s_cut [none, none, none, none, none, none, none, none, none, none, none, none, none, none, none, none, none, none, none, none, none, none, none, none, none, none, none, none, none, some 29, some 30, some 31, some 32, some 33, some 34, some 35, some 36, some 37, some 38, some 39, some 40, some 41, some 42, some 43, none, none, none, none, none, none, none, none, none, none, none, none, none, none, none, none, none, none, none, none, none, none, none, none, none, none, none, none, none, none, none, none, none, none, none, none, none, none, none, none] (fun f W => f 43 = .bool (decide (x ≤ y0) && !ltN d2[lo]! d2[x]!) ∧ Below wr.heap.size wr W) (fun Q1 hQ1 => ?_) ?_
      · by_cases hg : x ≤ y0
        · skip
          refine Flow.wp_region_flow (wr.heap.size) [] [] (by kernel_rfl) (by kernel_rfl) (Nat.le_refl _) (fun _ h => by cases h) Flow.facts_nil ?_
          refine Flow.pass_old (X := .int .i64 ((x : Int))) 9 (Flow.met_none rfl) (.inl rfl) (by kernel_rfl) (by kernel_rfl) rfl ?_
          refine Flow.pass_old (X := .int .i64 ((y0 : Int))) 10 (Flow.met_none rfl) (.inl rfl) (by kernel_rfl) (by kernel_rfl) rfl ?_
          refine Flow.pass_val (.bool true) (Flow.met_none rfl) (fun a W hH => ?_) ?_
          · have e0 := Flow.see_new 29 0 hH.sees (by kernel_rfl) (by kernel_rfl) rfl rfl
            have e1 := Flow.see_new 30 1 hH.sees (by kernel_rfl) (by kernel_rfl) rfl rfl
            go_simp; first | done | rfl | omega | (simp; done) | (simp; omega) | exact decide_eq_true (by omega) | exact decide_eq_false (by omega)
          refine Flow.pass_copy 31 2 (Flow.met_none rfl) (.inl rfl) (by kernel_rfl) (by kernel_rfl) rfl rfl (fun _ _ => Flow.kept_eqs _ _) ?_
          refine Flow.pass_old (X := .slice (some ⟨g, 0, none⟩) n cap) 0 (Flow.met_some 3 true 32 rfl rfl (by kernel_rfl) (by kernel_rfl) rfl rfl) (.inl rfl) (by kernel_rfl) (by kernel_rfl) rfl ?_
          refine Flow.pass_old (X := .int .i64 ((lo : Int))) 1 (Flow.met_some 3 true 32 rfl rfl (by kernel_rfl) (by kernel_rfl) rfl rfl) (.inl rfl) (by kernel_rfl) (by kernel_rfl) rfl ?_
          refine Flow.pass_val (.pointer (some ⟨g, lo, none⟩)) (Flow.met_some 3 true 32 rfl rfl (by kernel_rfl) (by kernel_rfl) rfl rfl) (fun a W hH => ?_) ?_
          · have e0 := Flow.see_new 33 4 hH.sees (by kernel_rfl) (by kernel_rfl) rfl rfl
            have e1 := Flow.see_new 34 5 hH.sees (by kernel_rfl) (by kernel_rfl) rfl rfl
            exact s_ixS (s := 1) (lo) _ rfl Try.underlying72 (by kernel_rfl) (by first | exact e0 | simpa [Act.eval] using e0 | (simp [Act.eval])) (by first | exact e1 | simpa [Act.eval] using e1 | (simp [Act.eval])) (by omega) (by omega) (by omega)
          refine Flow.pass_val (.int .u64 ((d2[lo]! : Nat) : Int)) (Flow.met_some 3 true 32 rfl rfl (by kernel_rfl) (by kernel_rfl) rfl rfl) (fun a W hH => ?_) ?_
          · have e0 := Flow.see_new 35 6 hH.sees (by kernel_rfl) (by kernel_rfl) rfl rfl
            have cc := nr_cell (hN_wr.below ((Below.refl wr.heap.size wr).drew.trans hH.below) hN_wr.lt) (lo) (by omega); go_simp; first | done | rfl
          refine Flow.pass_old (X := .slice (some ⟨g, 0, none⟩) n cap) 0 (Flow.met_some 3 true 32 rfl rfl (by kernel_rfl) (by kernel_rfl) rfl rfl) (.inl rfl) (by kernel_rfl) (by kernel_rfl) rfl ?_
          refine Flow.pass_old (X := .int .i64 ((x : Int))) 9 (Flow.met_some 3 true 32 rfl rfl (by kernel_rfl) (by kernel_rfl) rfl rfl) (.inl rfl) (by kernel_rfl) (by kernel_rfl) rfl ?_
          refine Flow.pass_val (.pointer (some ⟨g, x, none⟩)) (Flow.met_some 3 true 32 rfl rfl (by kernel_rfl) (by kernel_rfl) rfl rfl) (fun a W hH => ?_) ?_
          · have e0 := Flow.see_new 37 8 hH.sees (by kernel_rfl) (by kernel_rfl) rfl rfl
            have e1 := Flow.see_new 38 9 hH.sees (by kernel_rfl) (by kernel_rfl) rfl rfl
            exact s_ixS (s := 1) (x) _ rfl Try.underlying72 (by kernel_rfl) (by first | exact e0 | simpa [Act.eval] using e0 | (simp [Act.eval])) (by first | exact e1 | simpa [Act.eval] using e1 | (simp [Act.eval])) (by omega) (by omega) (by omega)
          refine Flow.pass_val (.int .u64 ((d2[x]! : Nat) : Int)) (Flow.met_some 3 true 32 rfl rfl (by kernel_rfl) (by kernel_rfl) rfl rfl) (fun a W hH => ?_) ?_
          · have e0 := Flow.see_new 39 10 hH.sees (by kernel_rfl) (by kernel_rfl) rfl rfl
            have cc := nr_cell (hN_wr.below ((Below.refl wr.heap.size wr).drew.trans hH.below) hN_wr.lt) (x) (by omega); go_simp; first | done | rfl
          refine Flow.pass_step (Reg.eqs (.bool (ltN (d2[lo]!) (d2[x]!)))) (fun _ _ => Flow.kept_eqs _ _) (Flow.met_some 3 true 32 rfl rfl (by kernel_rfl) (by kernel_rfl) rfl rfl) (fun a W hH => ?_) ?_
          · have e0 := Flow.see_new 36 7 hH.sees (by kernel_rfl) (by kernel_rfl) rfl rfl
            have e1 := Flow.see_new 40 11 hH.sees (by kernel_rfl) (by kernel_rfl) rfl rfl
            refine Reg.wp_call rfl Try.func77 rfl (by kernel_rfl) (by simp [Act.eval, e0, e1]) (lessN (d2[lo]!) (d2[x]!) W) ?_
            rintro e w' ⟨rfl, rfl⟩
            exact ⟨_, rfl, _, rfl, Ext.refl _, rfl⟩
          refine Flow.pass_val (.bool (!(ltN (d2[lo]!) (d2[x]!)))) (Flow.met_some 3 true 32 rfl rfl (by kernel_rfl) (by kernel_rfl) rfl rfl) (fun a W hH => ?_) ?_
          · have e0 := Flow.see_new 41 12 hH.sees (by kernel_rfl) (by kernel_rfl) rfl rfl
            go_simp; first | done | rfl
          refine Flow.pass_val (.bool (!(ltN (d2[lo]!) (d2[x]!)))) (Flow.met_none rfl) (fun a W hH => ?_) ?_
          · have e0 := Flow.see_new 32 3 hH.sees (by kernel_rfl) (by kernel_rfl) rfl rfl
            have e1 := Flow.see_new 42 13 hH.sees (by kernel_rfl) (by kernel_rfl) rfl rfl
            go_simp; first | done | rfl
          refine Flow.pass_end [none, none, none, none, none, none, none, none, none, none, none, none, none, none, none, none, none, none, none, none, none, none, none, none, none, none, none, none, none, some 29, some 30, some 31, some 32, some 33, some 34, some 35, some 36, some 37, some 38, some 39, some 40, some 41, some 42, some 43, none, none, none, none, none, none, none, none, none, none, none, none, none, none, none, none, none, none, none, none, none, none, none, none, none, none, none, none, none, none, none, none, none, none, none, none, none, none, none, none] (by kernel_rfl) ?_
          intro f gg w9 hB hfa hT hfg
          have h43 : f 43 = _ := (hfg 43 14 (by kernel_rfl)).trans (hT 14 _ (by kernel_rfl) rfl)
          exact hQ1 f w9 ⟨by rw [h43, decide_eq_true hg, Bool.true_and], (Below.refl wr.heap.size wr).drew.trans hB⟩
        · skip
          refine Flow.wp_region_flow (wr.heap.size) [] [] (by kernel_rfl) (by kernel_rfl) (Nat.le_refl _) (fun _ h => by cases h) Flow.facts_nil ?_
          refine Flow.pass_old (X := .int .i64 ((x : Int))) 9 (Flow.met_none rfl) (.inl rfl) (by kernel_rfl) (by kernel_rfl) rfl ?_
          refine Flow.pass_old (X := .int .i64 ((y0 : Int))) 10 (Flow.met_none rfl) (.inl rfl) (by kernel_rfl) (by kernel_rfl) rfl ?_
          refine Flow.pass_val (.bool false) (Flow.met_none rfl) (fun a W hH => ?_) ?_
          · have e0 := Flow.see_new 29 0 hH.sees (by kernel_rfl) (by kernel_rfl) rfl rfl
            have e1 := Flow.see_new 30 1 hH.sees (by kernel_rfl) (by kernel_rfl) rfl rfl
            go_simp; first | done | rfl | omega | (simp; done) | (simp; omega) | exact decide_eq_true (by omega) | exact decide_eq_false (by omega)
          refine Flow.pass_copy 31 2 (Flow.met_none rfl) (.inl rfl) (by kernel_rfl) (by kernel_rfl) rfl rfl (fun _ _ => Flow.kept_eqs _ _) ?_
          refine Flow.pass_skip (fun a W hH => Flow.not_wanted 3 true 32 hH rfl rfl (by kernel_rfl) (by kernel_rfl) rfl rfl) ?_
          refine Flow.pass_skip (fun a W hH => Flow.not_wanted 3 true 32 hH rfl rfl (by kernel_rfl) (by kernel_rfl) rfl rfl) ?_
          refine Flow.pass_skip (fun a W hH => Flow.not_wanted 3 true 32 hH rfl rfl (by kernel_rfl) (by kernel_rfl) rfl rfl) ?_
          refine Flow.pass_skip (fun a W hH => Flow.not_wanted 3 true 32 hH rfl rfl (by kernel_rfl) (by kernel_rfl) rfl rfl) ?_
          refine Flow.pass_skip (fun a W hH => Flow.not_wanted 3 true 32 hH rfl rfl (by kernel_rfl) (by kernel_rfl) rfl rfl) ?_
          refine Flow.pass_skip (fun a W hH => Flow.not_wanted 3 true 32 hH rfl rfl (by kernel_rfl) (by kernel_rfl) rfl rfl) ?_
          refine Flow.pass_skip (fun a W hH => Flow.not_wanted 3 true 32 hH rfl rfl (by kernel_rfl) (by kernel_rfl) rfl rfl) ?_
          refine Flow.pass_skip (fun a W hH => Flow.not_wanted 3 true 32 hH rfl rfl (by kernel_rfl) (by kernel_rfl) rfl rfl) ?_
          refine Flow.pass_skip (fun a W hH => Flow.not_wanted 3 true 32 hH rfl rfl (by kernel_rfl) (by kernel_rfl) rfl rfl) ?_
          refine Flow.pass_skip (fun a W hH => Flow.not_wanted 3 true 32 hH rfl rfl (by kernel_rfl) (by kernel_rfl) rfl rfl) ?_
          refine Flow.pass_val (.bool false) (Flow.met_none rfl) (fun a W hH => ?_) ?_
          · have e0 := Flow.see_new 32 3 hH.sees (by kernel_rfl) (by kernel_rfl) rfl rfl
            have e1 := Flow.see_new 42 13 hH.sees (by kernel_rfl) (by kernel_rfl) rfl rfl
            go_simp; first | done | rfl
          refine Flow.pass_end [none, none, none, none, none, none, none, none, none, none, none, none, none, none, none, none, none, none, none, none, none, none, none, none, none, none, none, none, none, some 29, some 30, some 31, some 32, some 33, some 34, some 35, some 36, some 37, some 38, some 39, some 40, some 41, some 42, some 43, none, none, none, none, none, none, none, none, none, none, none, none, none, none, none, none, none, none, none, none, none, none, none, none, none, none, none, none, none, none, none, none, none, none, none, none, none, none, none, none] (by kernel_rfl) ?_
          intro f gg w9 hB hfa hT hfg
          have h43 : f 43 = _ := (hfg 43 14 (by kernel_rfl)).trans (hT 14 _ (by kernel_rfl) rfl)
          exact hQ1 f w9 ⟨by rw [h43, decide_eq_false hg, Bool.false_and], (Below.refl wr.heap.size wr).drew.trans hB⟩
      intro f Wu ⟨h43, hBWu⟩
      simp only [Reg.sel, h43]
      have hN_Wu := Blk.below hN_wr hBWu (Blk.lt hN_wr)
      have hC_Wu := hC_wr.trans (Chg.of_ext hBWu)
      clear h43 hBWu
      cases hq : (decide (x ≤ y0) && !ltN d2[lo]! d2[x]!) with
      | true =>
        have hst := Lib.hid (scanUp_step (p := fun x => !ltN d2[lo]! x) hq)
        have hxy : x ≤ y0 := by simp only [Bool.and_eq_true, decide_eq_true_eq] at hq; exact hq.1
        clear hq
        go_wp2
        go_roundw
        case rel => first | exact ⟨x + 1, by omega, by omega, by go_num, Lib.hid (by rw [← hst.out]; exact hS.out), hN_Wu, hC_Wu⟩ | ((repeat apply Exists.intro); refine ⟨?_, rfl⟩; exact ⟨x + 1, by omega, by omega, by go_num, Lib.hid (by rw [← hst.out]; exact hS.out), hN_Wu, hC_Wu⟩)
        case measure => first | (simp [intOf]; done) | (simp [intOf]; omega) | (simp only [intOf]; omega)
      | false =>
        have hxe : IU = x := by rw [← hS.out]; exact scanUp_stop (p := fun x => !ltN d2[lo]! x) hq
        have HXE := Lib.hid hxe
        have hIUx : Hid (Sort.scanUp (fun x => !ltN d2[lo]! x) d2 y0 x0 = x) := Lib.hid (by rw [hIU.out, hxe])
        clear hq hS hxe hIU HXE
        obtain ⟨JU, hJU⟩ : ∃ u, Sort.scanDown (fun x => ltN d2[lo]! x) d2 x y0 = u := ⟨_, rfl⟩
        have hJU := Lib.hid hJU
        go_wp2
        go_loopw [10] (fun j wr => ∃ y : Nat, y ≤ y0 ∧ j = .int .i64 (y : Int) ∧ Hid (Sort.scanDown (fun x => ltN d2[lo]! x) d2 x y = JU) ∧ NR wr g d2 R ∧ Chg (OnlyG g) w wr) (fun j _ => (intOf j).toNat)
        case atStart => exact ⟨y0, Nat.le_refl _, by first | rfl | go_num, hJU, hN_Wu, hC_Wu⟩
        case round =>
          obtain ⟨y, hy1, rfl, hS, hN_wr, hC_wr⟩ := hrel
          go_upto_region 5 with (fail)
          refine s_cut [none, none, none, none, none, none, none, none, none, none, none, none, none, none, none, none, none, none, none, none, none, none, none, none, none, none, none, none, none, none, none, none, none, none, none, none, none, none, none, none, none, none, none, none, none, none, some 46, some 47, some 48, some 49, some 50, some 51, some 52, some 53, some 54, some 55, some 56, some 57, some 58, some 59, none, none, none, none, none, none, none, none, none, none, none, none, none, none, none, none, none, none, none, none, none, none, none, none] (fun f W => f 59 = .bool (decide (x ≤ y) && ltN d2[lo]! d2[y]!) ∧ Below wr.heap.size wr W) (fun Q1 hQ1 => ?_) ?_
          · by_cases hg : x ≤ y
            · skip
              refine Flow.wp_region_flow (wr.heap.size) [] [] (by kernel_rfl) (by kernel_rfl) (Nat.le_refl _) (fun _ h => by cases h) Flow.facts_nil ?_
              refine Flow.pass_old (X := .int .i64 ((x : Int))) 9 (Flow.met_none rfl) (.inl rfl) (by kernel_rfl) (by kernel_rfl) rfl ?_
              refine Flow.pass_old (X := .int .i64 ((y : Int))) 10 (Flow.met_none rfl) (.inl rfl) (by kernel_rfl) (by kernel_rfl) rfl ?_
              refine Flow.pass_val (.bool true) (Flow.met_none rfl) (fun a W hH => ?_) ?_
              · have e0 := Flow.see_new 46 0 hH.sees (by kernel_rfl) (by kernel_rfl) rfl rfl
                have e1 := Flow.see_new 47 1 hH.sees (by kernel_rfl) (by kernel_rfl) rfl rfl
                go_simp; first | done | rfl | omega | (simp; done) | (simp; omega) | exact decide_eq_true (by omega) | exact decide_eq_false (by omega)
              refine Flow.pass_copy 48 2 (Flow.met_none rfl) (.inl rfl) (by kernel_rfl) (by kernel_rfl) rfl rfl (fun _ _ => Flow.kept_eqs _ _) ?_
              refine Flow.pass_old (X := .slice (some ⟨g, 0, none⟩) n cap) 0 (Flow.met_some 3 true 49 rfl rfl (by kernel_rfl) (by kernel_rfl) rfl rfl) (.inl rfl) (by kernel_rfl) (by kernel_rfl) rfl ?_
              refine Flow.pass_old (X := .int .i64 ((lo : Int))) 1 (Flow.met_some 3 true 49 rfl rfl (by kernel_rfl) (by kernel_rfl) rfl rfl) (.inl rfl) (by kernel_rfl) (by kernel_rfl) rfl ?_
              refine Flow.pass_val (.pointer (some ⟨g, lo, none⟩)) (Flow.met_some 3 true 49 rfl rfl (by kernel_rfl) (by kernel_rfl) rfl rfl) (fun a W hH => ?_) ?_
              · have e0 := Flow.see_new 50 4 hH.sees (by kernel_rfl) (by kernel_rfl) rfl rfl
                have e1 := Flow.see_new 51 5 hH.sees (by kernel_rfl) (by kernel_rfl) rfl rfl
                exact s_ixS (s := 1) (lo) _ rfl Try.underlying72 (by kernel_rfl) (by first | exact e0 | simpa [Act.eval] using e0 | (simp [Act.eval])) (by first | exact e1 | simpa [Act.eval] using e1 | (simp [Act.eval])) (by omega) (by omega) (by omega)
              refine Flow.pass_val (.int .u64 ((d2[lo]! : Nat) : Int)) (Flow.met_some 3 true 49 rfl rfl (by kernel_rfl) (by kernel_rfl) rfl rfl) (fun a W hH => ?_) ?_
              · have e0 := Flow.see_new 52 6 hH.sees (by kernel_rfl) (by kernel_rfl) rfl rfl
                have cc := nr_cell (hN_wr.below ((Below.refl wr.heap.size wr).drew.trans hH.below) hN_wr.lt) (lo) (by omega); go_simp; first | done | rfl
              refine Flow.pass_old (X := .slice (some ⟨g, 0, none⟩) n cap) 0 (Flow.met_some 3 true 49 rfl rfl (by kernel_rfl) (by kernel_rfl) rfl rfl) (.inl rfl) (by kernel_rfl) (by kernel_rfl) rfl ?_
              refine Flow.pass_old (X := .int .i64 ((y : Int))) 10 (Flow.met_some 3 true 49 rfl rfl (by kernel_rfl) (by kernel_rfl) rfl rfl) (.inl rfl) (by kernel_rfl) (by kernel_rfl) rfl ?_
              refine Flow.pass_val (.pointer (some ⟨g, y, none⟩)) (Flow.met_some 3 true 49 rfl rfl (by kernel_rfl) (by kernel_rfl) rfl rfl) (fun a W hH => ?_) ?_
              · have e0 := Flow.see_new 54 8 hH.sees (by kernel_rfl) (by kernel_rfl) rfl rfl
                have e1 := Flow.see_new 55 9 hH.sees (by kernel_rfl) (by kernel_rfl) rfl rfl
                exact s_ixS (s := 1) (y) _ rfl Try.underlying72 (by kernel_rfl) (by first | exact e0 | simpa [Act.eval] using e0 | (simp [Act.eval])) (by first | exact e1 | simpa [Act.eval] using e1 | (simp [Act.eval])) (by omega) (by omega) (by omega)
              refine Flow.pass_val (.int .u64 ((d2[y]! : Nat) : Int)) (Flow.met_some 3 true 49 rfl rfl (by kernel_rfl) (by kernel_rfl) rfl rfl) (fun a W hH => ?_) ?_
              · have e0 := Flow.see_new 56 10 hH.sees (by kernel_rfl) (by kernel_rfl) rfl rfl
                have cc := nr_cell (hN_wr.below ((Below.refl wr.heap.size wr).drew.trans hH.below) hN_wr.lt) (y) (by omega); go_simp; first | done | rfl
              refine Flow.pass_step (Reg.eqs (.bool (ltN (d2[lo]!) (d2[y]!)))) (fun _ _ => Flow.kept_eqs _ _) (Flow.met_some 3 true 49 rfl rfl (by kernel_rfl) (by kernel_rfl) rfl rfl) (fun a W hH => ?_) ?_
              · have e0 := Flow.see_new 53 7 hH.sees (by kernel_rfl) (by kernel_rfl) rfl rfl
                have e1 := Flow.see_new 57 11 hH.sees (by kernel_rfl) (by kernel_rfl) rfl rfl
                refine Reg.wp_call rfl Try.func77 rfl (by kernel_rfl) (by simp [Act.eval, e0, e1]) (lessN (d2[lo]!) (d2[y]!) W) ?_
                rintro e w' ⟨rfl, rfl⟩
                exact ⟨_, rfl, _, rfl, Ext.refl _, rfl⟩
              refine Flow.pass_val (.bool (ltN (d2[lo]!) (d2[y]!))) (Flow.met_none rfl) (fun a W hH => ?_) ?_
              · have e0 := Flow.see_new 49 3 hH.sees (by kernel_rfl) (by kernel_rfl) rfl rfl
                have e1 := Flow.see_new 58 12 hH.sees (by kernel_rfl) (by kernel_rfl) rfl rfl
                go_simp; first | done | rfl
              refine Flow.pass_end [none, none, none, none, none, none, none, none, none, none, none, none, none, none, none, none, none, none, none, none, none, none, none, none, none, none, none, none, none, none, none, none, none, none, none, none, none, none, none, none, none, none, none, none, none, none, some 46, some 47, some 48, some 49, some 50, some 51, some 52, some 53, some 54, some 55, some 56, some 57, some 58, some 59, none, none, none, none, none, none, none, none, none, none, none, none, none, none, none, none, none, none, none, none, none, none, none, none] (by kernel_rfl) ?_
              intro f gg w9 hB hfa hT hfg
              have h59 : f 59 = _ := (hfg 59 13 (by kernel_rfl)).trans (hT 13 _ (by kernel_rfl) rfl)
              exact hQ1 f w9 ⟨by rw [h59, decide_eq_true hg, Bool.true_and], (Below.refl wr.heap.size wr).drew.trans hB⟩
            · skip
              refine Flow.wp_region_flow (wr.heap.size) [] [] (by kernel_rfl) (by kernel_rfl) (Nat.le_refl _) (fun _ h => by cases h) Flow.facts_nil ?_
              refine Flow.pass_old (X := .int .i64 ((x : Int))) 9 (Flow.met_none rfl) (.inl rfl) (by kernel_rfl) (by kernel_rfl) rfl ?_
              refine Flow.pass_old (X := .int .i64 ((y : Int))) 10 (Flow.met_none rfl) (.inl rfl) (by kernel_rfl) (by kernel_rfl) rfl ?_
              refine Flow.pass_val (.bool false) (Flow.met_none rfl) (fun a W hH => ?_) ?_
              · have e0 := Flow.see_new 46 0 hH.sees (by kernel_rfl) (by kernel_rfl) rfl rfl
                have e1 := Flow.see_new 47 1 hH.sees (by kernel_rfl) (by kernel_rfl) rfl rfl
                go_simp; first | done | rfl | omega | (simp; done) | (simp; omega) | exact decide_eq_true (by omega) | exact decide_eq_false (by omega)
              refine Flow.pass_copy 48 2 (Flow.met_none rfl) (.inl rfl) (by kernel_rfl) (by kernel_rfl) rfl rfl (fun _ _ => Flow.kept_eqs _ _) ?_
              refine Flow.pass_skip (fun a W hH => Flow.not_wanted 3 true 49 hH rfl rfl (by kernel_rfl) (by kernel_rfl) rfl rfl) ?_
              refine Flow.pass_skip (fun a W hH => Flow.not_wanted 3 true 49 hH rfl rfl (by kernel_rfl) (by kernel_rfl) rfl rfl) ?_
              refine Flow.pass_skip (fun a W hH => Flow.not_wanted 3 true 49 hH rfl rfl (by kernel_rfl) (by kernel_rfl) rfl rfl) ?_
              refine Flow.pass_skip (fun a W hH => Flow.not_wanted 3 true 49 hH rfl rfl (by kernel_rfl) (by kernel_rfl) rfl rfl) ?_
              refine Flow.pass_skip (fun a W hH => Flow.not_wanted 3 true 49 hH rfl rfl (by kernel_rfl) (by kernel_rfl) rfl rfl) ?_
              refine Flow.pass_skip (fun a W hH => Flow.not_wanted 3 true 49 hH rfl rfl (by kernel_rfl) (by kernel_rfl) rfl rfl) ?_
              refine Flow.pass_skip (fun a W hH => Flow.not_wanted 3 true 49 hH rfl rfl (by kernel_rfl) (by kernel_rfl) rfl rfl) ?_
              refine Flow.pass_skip (fun a W hH => Flow.not_wanted 3 true 49 hH rfl rfl (by kernel_rfl) (by kernel_rfl) rfl rfl) ?_
              refine Flow.pass_skip (fun a W hH => Flow.not_wanted 3 true 49 hH rfl rfl (by kernel_rfl) (by kernel_rfl) rfl rfl) ?_
              refine Flow.pass_val (.bool false) (Flow.met_none rfl) (fun a W hH => ?_) ?_
              · have e0 := Flow.see_new 49 3 hH.sees (by kernel_rfl) (by kernel_rfl) rfl rfl
                have e1 := Flow.see_new 58 12 hH.sees (by kernel_rfl) (by kernel_rfl) rfl rfl
                go_simp; first | done | rfl
              refine Flow.pass_end [none, none, none, none, none, none, none, none, none, none, none, none, none, none, none, none, none, none, none, none, none, none, none, none, none, none, none, none, none, none, none, none, none, none, none, none, none, none, none, none, none, none, none, none, none, none, some 46, some 47, some 48, some 49, some 50, some 51, some 52, some 53, some 54, some 55, some 56, some 57, some 58, some 59, none, none, none, none, none, none, none, none, none, none, none, none, none, none, none, none, none, none, none, none, none, none, none, none] (by kernel_rfl) ?_
              intro f gg w9 hB hfa hT hfg
              have h59 : f 59 = _ := (hfg 59 13 (by kernel_rfl)).trans (hT 13 _ (by kernel_rfl) rfl)
              exact hQ1 f w9 ⟨by rw [h59, decide_eq_false hg, Bool.false_and], (Below.refl wr.heap.size wr).drew.trans hB⟩
          intro f Wd ⟨h59, hBWd⟩
          simp only [Reg.sel, h59]
          have hN_Wd := Blk.below hN_wr hBWd (Blk.lt hN_wr)
          have hC_Wd := hC_wr.trans (Chg.of_ext hBWd)
          clear h59 hBWd
          cases hq : (decide (x ≤ y) && ltN d2[lo]! d2[y]!) with
          | true =>
            have hxy : x ≤ y := by simp only [Bool.and_eq_true, decide_eq_true_eq] at hq; exact hq.1
            have hst := Lib.hid (scanDown_step (p := fun x => ltN d2[lo]! x) (by omega) hq)
            clear hq
            go_wp2
            go_roundw
            case rel => first | exact ⟨y - 1, by omega, by go_num, Lib.hid (by rw [← hst.out]; exact hS.out), hN_Wd, hC_Wd⟩ | ((repeat apply Exists.intro); refine ⟨?_, rfl⟩; exact ⟨y - 1, by omega, by go_num, Lib.hid (by rw [← hst.out]; exact hS.out), hN_Wd, hC_Wd⟩)
            case measure => first | (simp [intOf]; done) | (simp [intOf]; omega) | (simp only [intOf]; omega)
          | false =>
            have hye : JU = y := by rw [← hS.out]; exact scanDown_stop (p := fun x => ltN d2[lo]! x) hq
            have hJUy : Hid (Sort.scanDown (fun x => ltN d2[lo]! x) d2 x y0 = y) := Lib.hid (by rw [hJU.out, hye])
            clear hq hS hye hJU
            by_cases hc : y < x
            · have hci : (y : Int) < (x : Int) := by omega
              have hre : Hid (RES = (x, d2)) := Lib.hid (by rw [← hPL.out]; exact partEq_stop hIUx.out hJUy.out hc)
              go_wp2
              go_ret
              refine ⟨?_, ?_, hC_Wd⟩
              · rw [hre.out]; rfl
              · rw [hre.out]; exact hN_Wd
            · have hci : ¬ (y : Int) < (x : Int) := by omega
              have hst : Hid (Sort.partEqLoop ltN lo (x + 1) (y - 1) (Sort.swp d2 x y) = RES) := Lib.hid (by rw [← hPL.out]; exact (partEq_step hIUx.out hJUy.out hc hx1 hy1 (by omega)).symm)
              go_wp2
              go_upto_region 8 with (fail)
              refine Flow.wp_region_flow (g) [(13, fun b => b = g), (15, fun b => b = g)] [(7, fun W => NR W g d2 R), (11, fun W => NR W g d2 R), (13, fun W => NR W g d2 R), (16, fun W => Chg (OnlyG g) Wd W)] (by kernel_rfl) (by kernel_rfl) (Nat.le_of_lt hN_Wd.lt) (Flow.nz_cons (by rintro b rfl; exact Nat.le_refl _) (Flow.nz_cons (by rintro b rfl; exact Nat.le_refl _) Flow.nz_nil)) (Flow.facts_cons (hN_Wd.drew) (Flow.kept_blk id) (Flow.fz_cons (Flow.no_follow (by kernel_rfl)) (Flow.fz_cons (Flow.no_follow (by kernel_rfl)) Flow.fz_nil)) (Flow.facts_cons (hN_Wd.drew) (Flow.kept_blk id) (Flow.fz_cons (Flow.no_follow (by kernel_rfl)) (Flow.fz_cons (Flow.no_follow (by kernel_rfl)) Flow.fz_nil)) (Flow.facts_cons (hN_Wd.drew) (Flow.kept_blk id) (Flow.fz_cons (Flow.no_follow (by kernel_rfl)) (Flow.fz_cons (Flow.no_follow (by kernel_rfl)) Flow.fz_nil)) (Flow.facts_cons ((Chg.refl _ _).drew) (fun _ _ c h => onlyg_trans h c (by first | exact fun _ hj => hj | exact fun _ hj => hj.elim)) (Flow.fz_cons (fun _ => fun _ _ c h => onlyg_trans h c (by first | exact fun _ hj => hj | exact fun _ hj => hj.elim)) (Flow.fz_cons (fun _ => fun _ _ c h => onlyg_trans h c (by first | exact fun _ hj => hj | exact fun _ hj => hj.elim)) Flow.fz_nil)) Flow.facts_nil)))) ?_
              refine Flow.pass_old (X := .slice (some ⟨g, 0, none⟩) n cap) 0 (Flow.met_none rfl) (.inl rfl) (by kernel_rfl) (by kernel_rfl) rfl ?_
              refine Flow.pass_old (X := .int .i64 ((x : Int))) 9 (Flow.met_none rfl) (.inl rfl) (by kernel_rfl) (by kernel_rfl) rfl ?_
              refine Flow.pass_old (X := .slice (some ⟨g, 0, none⟩) n cap) 0 (Flow.met_none rfl) (.inl rfl) (by kernel_rfl) (by kernel_rfl) rfl ?_
              refine Flow.pass_old (X := .int .i64 ((y : Int))) 10 (Flow.met_none rfl) (.inl rfl) (by kernel_rfl) (by kernel_rfl) rfl ?_
              refine Flow.pass_old (X := .slice (some ⟨g, 0, none⟩) n cap) 0 (Flow.met_none rfl) (.inl rfl) (by kernel_rfl) (by kernel_rfl) rfl ?_
              refine Flow.pass_old (X := .int .i64 ((y : Int))) 10 (Flow.met_none rfl) (.inl rfl) (by kernel_rfl) (by kernel_rfl) rfl ?_
              refine Flow.pass_val (.pointer (some ⟨g, y, none⟩)) (Flow.met_none rfl) (fun a W hH => ?_) ?_
              · have e0 := Flow.see_new 69 4 hH.sees (by kernel_rfl) (by kernel_rfl) rfl rfl
                have e1 := Flow.see_new 70 5 hH.sees (by kernel_rfl) (by kernel_rfl) rfl rfl
                exact s_ixS (s := 1) (y) _ rfl Try.underlying72 (by kernel_rfl) (by first | exact e0 | simpa [Act.eval] using e0 | (simp [Act.eval])) (by first | exact e1 | simpa [Act.eval] using e1 | (simp [Act.eval])) (by omega) (by omega) (by omega)
              refine Flow.pass_val (.int .u64 ((d2[y]! : Nat) : Int)) (Flow.met_none rfl) (fun a W hH => ?_) ?_
              · have e0 := Flow.see_new 71 6 hH.sees (by kernel_rfl) (by kernel_rfl) rfl rfl
                have fa0 : (fun W => NR W g d2 R) W := hH.fact _ (List.mem_of_getElem? (i := 0) rfl) rfl
                have cc := nr_cell fa0 (y) (by omega); go_simp; first | done | rfl
              refine Flow.pass_old (X := .slice (some ⟨g, 0, none⟩) n cap) 0 (Flow.met_none rfl) (.inl rfl) (by kernel_rfl) (by kernel_rfl) rfl ?_
              refine Flow.pass_old (X := .int .i64 ((x : Int))) 9 (Flow.met_none rfl) (.inl rfl) (by kernel_rfl) (by kernel_rfl) rfl ?_
              refine Flow.pass_val (.pointer (some ⟨g, x, none⟩)) (Flow.met_none rfl) (fun a W hH => ?_) ?_
              · have e0 := Flow.see_new 73 8 hH.sees (by kernel_rfl) (by kernel_rfl) rfl rfl
                have e1 := Flow.see_new 74 9 hH.sees (by kernel_rfl) (by kernel_rfl) rfl rfl
                exact s_ixS (s := 1) (x) _ rfl Try.underlying72 (by kernel_rfl) (by first | exact e0 | simpa [Act.eval] using e0 | (simp [Act.eval])) (by first | exact e1 | simpa [Act.eval] using e1 | (simp [Act.eval])) (by omega) (by omega) (by omega)
              refine Flow.pass_val (.int .u64 ((d2[x]! : Nat) : Int)) (Flow.met_none rfl) (fun a W hH => ?_) ?_
              · have e0 := Flow.see_new 75 10 hH.sees (by kernel_rfl) (by kernel_rfl) rfl rfl
                have fa1 : (fun W => NR W g d2 R) W := hH.fact _ (List.mem_of_getElem? (i := 1) rfl) rfl
                have cc := nr_cell fa1 (x) (by omega); go_simp; first | done | rfl
              refine Flow.pass_val (.pointer (some ⟨g, x, none⟩)) (Flow.met_none rfl) (fun a W hH => ?_) ?_
              · have e0 := Flow.see_new 65 0 hH.sees (by kernel_rfl) (by kernel_rfl) rfl rfl
                have e1 := Flow.see_new 66 1 hH.sees (by kernel_rfl) (by kernel_rfl) rfl rfl
                exact s_ixS (s := 1) (x) _ rfl Try.underlying72 (by kernel_rfl) (by first | exact e0 | simpa [Act.eval] using e0 | (simp [Act.eval])) (by first | exact e1 | simpa [Act.eval] using e1 | (simp [Act.eval])) (by omega) (by omega) (by omega)
              refine Flow.pass_lin [15] (fun _ W => NR W g (d2.setIfInBounds (x) (d2[y]!)) R) (Flow.kept_lin [15] (fun _ _ _ c h => h.chg c id) (Flow.lz_cons (Flow.no_follow (by kernel_rfl)) (Flow.lz_cons (fun _ => .inl rfl) Flow.lz_nil))) (Flow.met_none rfl) (fun a W hH => ?_) ?_
              · have e0 := Flow.see_new 77 12 hH.sees (by kernel_rfl) (by kernel_rfl) rfl rfl
                have e1 := Flow.see_new 72 7 hH.sees (by kernel_rfl) (by kernel_rfl) rfl rfl
                have fa2 : (fun W => NR W g d2 R) W := hH.fact _ (List.mem_of_getElem? (i := 2) rfl) rfl
                refine s_skip (s_store rfl (by kernel_rfl) fa2 e0 e1 (nr_size (by omega))) ?_
                exact ⟨_, rfl, Chg.grown (s_grown _ _ _ _) (by rintro j h; cases h; rfl), nr_set fa2 _ (by omega) _⟩
              refine Flow.pass_val (.pointer (some ⟨g, y, none⟩)) (Flow.met_none rfl) (fun a W hH => ?_) ?_
              · have e0 := Flow.see_new 67 2 hH.sees (by kernel_rfl) (by kernel_rfl) rfl rfl
                have e1 := Flow.see_new 68 3 hH.sees (by kernel_rfl) (by kernel_rfl) rfl rfl
                exact s_ixS (s := 1) (y) _ rfl Try.underlying72 (by kernel_rfl) (by first | exact e0 | simpa [Act.eval] using e0 | (simp [Act.eval])) (by first | exact e1 | simpa [Act.eval] using e1 | (simp [Act.eval])) (by omega) (by omega) (by omega)
              refine Flow.pass_gen (fun _ W => NR W g ((d2.setIfInBounds (x) (d2[y]!)).setIfInBounds (y) (d2[x]!)) R) (Flow.kept_of (fun _ _ _ c h => h.chg c id) (Flow.kz_cons (Flow.no_follow (by kernel_rfl)) (Flow.kz_cons (Flow.no_follow (by kernel_rfl)) Flow.kz_nil))) (Flow.met_none rfl) (fun a W hH => ?_) ?_
              · have e0 := Flow.see_new 78 14 hH.sees (by kernel_rfl) (by kernel_rfl) rfl rfl
                have e1 := Flow.see_new 76 11 hH.sees (by kernel_rfl) (by kernel_rfl) rfl rfl
                obtain ⟨_, hP⟩ := Flow.past_lin 13 hH.past (by kernel_rfl) (by kernel_rfl) rfl (by kernel_rfl)
                refine s_skip (s_store rfl (by kernel_rfl) hP e0 e1 (nr_size (by rw [Array.size_setIfInBounds]; omega))) ?_
                exact ⟨_, rfl, Chg.grown (s_grown _ _ _ _) (by rintro j h; cases h; rfl), nr_set hP _ (by rw [Array.size_setIfInBounds]; omega) _⟩
              refine Flow.pass_end [none, none, none, none, none, none, none, none, none, none, none, none, none, none, none, none, none, none, none, none, none, none, none, none, none, none, none, none, none, none, none, none, none, none, none, none, none, none, none, none, none, none, none, none, none, none, none, none, none, none, none, none, none, none, none, none, none, none, none, none, none, none, none, none, none, some 65, some 66, some 67, some 68, some 69, some 70, some 71, some 72, some 73, some 74, some 75, some 76, some 77, some 78, none, none, none, none, none] (by kernel_rfl) ?_
              intro f gg w9 hB hfa hT hfg
              have F3 : (fun W => Chg (OnlyG g) Wd W) w9 := hfa _ (List.mem_of_getElem? (i := 3) rfl) (Nat.le_refl _)
              have hN_W8 : NR w9 g (Sort.swp d2 (x) (y)) R := hT 15 _ (by kernel_rfl) rfl
              have hC_W8 := hC_Wd.trans F3
              simp only [Reg.sel]
              obtain ⟨W8, hWW8⟩ : ∃ W, W = w9 := ⟨_, rfl⟩
              subst hWW8
              clear hT hfg hfa hB F3
              go_wp2
              go_roundw
              case rel => first | exact ⟨x + 1, y - 1, _, by omega, by omega, by omega, by go_num, by go_num, hst, by rw [swp_size]; exact hn2, hN_W8, hC_W8⟩ | ((repeat apply Exists.intro); refine ⟨?_, rfl⟩; exact ⟨x + 1, y - 1, _, by omega, by omega, by omega, by go_num, by go_num, hst, by rw [swp_size]; exact hn2, hN_W8, hC_W8⟩)
              case measure => first | (simp [intOf]; done) | (simp [intOf]; omega) | (simp only [intOf]; omega)
end Go.Proofs.Ytjfmgoickokbjaa
