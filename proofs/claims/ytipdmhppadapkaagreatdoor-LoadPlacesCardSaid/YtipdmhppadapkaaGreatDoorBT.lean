/-
  Parts: SrtG SrtH SrtI.
-/
import Derived.Test.YtipdmhppadapkaaGreatDoorBS
/-
  Walk: partitionEqualOrdered at uint64.
-/
namespace Go.Proofs.YtipdmhppadapkaaGreatDoor
open Go.RowKit

set_option maxRecDepth 100000 in
set_option maxHeartbeats 4000000 in
theorem partitionEqual_walk (g : Nat) (R : List Value) (d : Array Nat) (n cap lo hi pv : Nat) (hn : d.size = n) (hlo : lo ≤ pv) (hpv : pv < hi) (hhi : hi ≤ n) (hn5 : n ≤ 1000000) (w : World) (hN_w : NR w g d R) :
    Calls Tryz.prog 163 #[.slice (some ⟨g, 0, none⟩) n cap, .int .i64 (lo : Int), .int .i64 (hi : Int), .int .i64 (pv : Int)] w fun e w' =>
      e = .returned (.int .i64 (((Sort.partitionEqual ltN d lo hi pv).1 : Nat) : Int)) ∧ NR w' g (Sort.partitionEqual ltN d lo hi pv).2 R ∧ Chg (OnlyG g) w w' := by
  obtain ⟨RES, hRES⟩ : ∃ X, Sort.partitionEqual ltN d lo hi pv = X := ⟨_, rfl⟩
  rw [hRES]
  obtain ⟨d1, hd1⟩ : ∃ X, Sort.swp d lo pv = X := ⟨_, rfl⟩
  obtain ⟨jj, hjj⟩ : ∃ j, hi - 1 = j := ⟨_, rfl⟩
  have HPL0 : Hid (Sort.partEqLoop ltN lo (lo + 1) jj d1 = RES) := Lib.hid (by rw [← hRES, ← hd1, ← hjj]; rfl)
  have hC_w := Chg.refl (OnlyG g) w
  have hn1 : d1.size = n := by rw [← hd1, swp_size]; exact hn
  clear hRES
  go_enter Tryz.func163, Tryz.ntmps163
  go_wp2_with fail
  refine Flow.wp_region_flow (g) [(13, fun b => b = g), (15, fun b => b = g)] [(7, fun W => NR W g d R), (11, fun W => NR W g d R), (13, fun W => NR W g d R), (16, fun W => Chg (OnlyG g) w W)] (by kernel_rfl) (by kernel_rfl) (Nat.le_of_lt hN_w.lt) (Flow.nz_cons (by rintro b rfl; exact Nat.le_refl _) (Flow.nz_cons (by rintro b rfl; exact Nat.le_refl _) Flow.nz_nil)) (Flow.facts_cons (hN_w.drew) (Flow.kept_blk id) (Flow.fz_cons (Flow.no_follow (by kernel_rfl)) (Flow.fz_cons (Flow.no_follow (by kernel_rfl)) Flow.fz_nil)) (Flow.facts_cons (hN_w.drew) (Flow.kept_blk id) (Flow.fz_cons (Flow.no_follow (by kernel_rfl)) (Flow.fz_cons (Flow.no_follow (by kernel_rfl)) Flow.fz_nil)) (Flow.facts_cons (hN_w.drew) (Flow.kept_blk id) (Flow.fz_cons (Flow.no_follow (by kernel_rfl)) (Flow.fz_cons (Flow.no_follow (by kernel_rfl)) Flow.fz_nil)) (Flow.facts_cons ((Chg.refl _ _).drew) (fun _ _ c h => onlyg_trans h c (by first | exact fun _ hj => hj | exact fun _ hj => hj.elim)) (Flow.fz_cons (fun _ => fun _ _ c h => onlyg_trans h c (by first | exact fun _ hj => hj | exact fun _ hj => hj.elim)) (Flow.fz_cons (fun _ => fun _ _ c h => onlyg_trans h c (by first | exact fun _ hj => hj | exact fun _ hj => hj.elim)) Flow.fz_nil)) Flow.facts_nil)))) ?_
  refine Flow.pass_old (X := .slice (some ⟨g, 0, none⟩) n cap) 0 (Flow.met_none rfl) (.inl rfl) (by kernel_rfl) (by kernel_rfl) rfl ?_
  refine Flow.pass_old (X := .int .i64 ((lo : Int))) 1 (Flow.met_none rfl) (.inl rfl) (by kernel_rfl) (by kernel_rfl) rfl ?_
  refine Flow.pass_old (X := .slice (some ⟨g, 0, none⟩) n cap) 0 (Flow.met_none rfl) (.inl rfl) (by kernel_rfl) (by kernel_rfl) rfl ?_
  refine Flow.pass_old (X := .int .i64 ((pv : Int))) 3 (Flow.met_none rfl) (.inl rfl) (by kernel_rfl) (by kernel_rfl) rfl ?_
  refine Flow.pass_old (X := .slice (some ⟨g, 0, none⟩) n cap) 0 (Flow.met_none rfl) (.inl rfl) (by kernel_rfl) (by kernel_rfl) rfl ?_
  refine Flow.pass_old (X := .int .i64 ((pv : Int))) 3 (Flow.met_none rfl) (.inl rfl) (by kernel_rfl) (by kernel_rfl) rfl ?_
  refine Flow.pass_val (.pointer (some ⟨g, pv, none⟩)) (Flow.met_none rfl) (fun a W hH => ?_) ?_
  · have e0 := Flow.see_new 15 4 hH.sees (by kernel_rfl) (by kernel_rfl) rfl rfl
    have e1 := Flow.see_new 16 5 hH.sees (by kernel_rfl) (by kernel_rfl) rfl rfl
    exact s_ixS (s := 1) (pv) _ rfl Tryz.underlying74 (by kernel_rfl) (by first | exact e0 | simpa [Act.eval] using e0 | (simp [Act.eval])) (by first | exact e1 | simpa [Act.eval] using e1 | (simp [Act.eval])) (by omega) (by omega) (by omega)
  refine Flow.pass_val (.int .u64 ((d[pv]! : Nat) : Int)) (Flow.met_none rfl) (fun a W hH => ?_) ?_
  · have e0 := Flow.see_new 17 6 hH.sees (by kernel_rfl) (by kernel_rfl) rfl rfl
    have fa0 : (fun W => NR W g d R) W := hH.fact _ (List.mem_of_getElem? (i := 0) rfl) rfl
    have cc := nr_cell fa0 (pv) (by omega); go_simp; first | done | rfl
  refine Flow.pass_old (X := .slice (some ⟨g, 0, none⟩) n cap) 0 (Flow.met_none rfl) (.inl rfl) (by kernel_rfl) (by kernel_rfl) rfl ?_
  refine Flow.pass_old (X := .int .i64 ((lo : Int))) 1 (Flow.met_none rfl) (.inl rfl) (by kernel_rfl) (by kernel_rfl) rfl ?_
  refine Flow.pass_val (.pointer (some ⟨g, lo, none⟩)) (Flow.met_none rfl) (fun a W hH => ?_) ?_
  · have e0 := Flow.see_new 19 8 hH.sees (by kernel_rfl) (by kernel_rfl) rfl rfl
    have e1 := Flow.see_new 20 9 hH.sees (by kernel_rfl) (by kernel_rfl) rfl rfl
    exact s_ixS (s := 1) (lo) _ rfl Tryz.underlying74 (by kernel_rfl) (by first | exact e0 | simpa [Act.eval] using e0 | (simp [Act.eval])) (by first | exact e1 | simpa [Act.eval] using e1 | (simp [Act.eval])) (by omega) (by omega) (by omega)
  refine Flow.pass_val (.int .u64 ((d[lo]! : Nat) : Int)) (Flow.met_none rfl) (fun a W hH => ?_) ?_
  · have e0 := Flow.see_new 21 10 hH.sees (by kernel_rfl) (by kernel_rfl) rfl rfl
    have fa1 : (fun W => NR W g d R) W := hH.fact _ (List.mem_of_getElem? (i := 1) rfl) rfl
    have cc := nr_cell fa1 (lo) (by omega); go_simp; first | done | rfl
  refine Flow.pass_val (.pointer (some ⟨g, lo, none⟩)) (Flow.met_none rfl) (fun a W hH => ?_) ?_
  · have e0 := Flow.see_new 11 0 hH.sees (by kernel_rfl) (by kernel_rfl) rfl rfl
    have e1 := Flow.see_new 12 1 hH.sees (by kernel_rfl) (by kernel_rfl) rfl rfl
    exact s_ixS (s := 1) (lo) _ rfl Tryz.underlying74 (by kernel_rfl) (by first | exact e0 | simpa [Act.eval] using e0 | (simp [Act.eval])) (by first | exact e1 | simpa [Act.eval] using e1 | (simp [Act.eval])) (by omega) (by omega) (by omega)
  refine Flow.pass_lin [15] (fun _ W => NR W g (d.setIfInBounds (lo) (d[pv]!)) R) (Flow.kept_lin [15] (fun _ _ _ c h => h.chg c id) (Flow.lz_cons (Flow.no_follow (by kernel_rfl)) (Flow.lz_cons (fun _ => .inl rfl) Flow.lz_nil))) (Flow.met_none rfl) (fun a W hH => ?_) ?_
  · have e0 := Flow.see_new 23 12 hH.sees (by kernel_rfl) (by kernel_rfl) rfl rfl
    have e1 := Flow.see_new 18 7 hH.sees (by kernel_rfl) (by kernel_rfl) rfl rfl
    have fa2 : (fun W => NR W g d R) W := hH.fact _ (List.mem_of_getElem? (i := 2) rfl) rfl
    refine s_skip (s_store rfl (by kernel_rfl) fa2 e0 e1 (nr_size (by omega))) ?_
    exact ⟨_, rfl, Chg.grown (s_grown _ _ _ _) (by rintro j h; cases h; rfl), nr_set fa2 _ (by omega) _⟩
  refine Flow.pass_val (.pointer (some ⟨g, pv, none⟩)) (Flow.met_none rfl) (fun a W hH => ?_) ?_
  · have e0 := Flow.see_new 13 2 hH.sees (by kernel_rfl) (by kernel_rfl) rfl rfl
    have e1 := Flow.see_new 14 3 hH.sees (by kernel_rfl) (by kernel_rfl) rfl rfl
    exact s_ixS (s := 1) (pv) _ rfl Tryz.underlying74 (by kernel_rfl) (by first | exact e0 | simpa [Act.eval] using e0 | (simp [Act.eval])) (by first | exact e1 | simpa [Act.eval] using e1 | (simp [Act.eval])) (by omega) (by omega) (by omega)
  refine Flow.pass_gen (fun _ W => NR W g ((d.setIfInBounds (lo) (d[pv]!)).setIfInBounds (pv) (d[lo]!)) R) (Flow.kept_of (fun _ _ _ c h => h.chg c id) (Flow.kz_cons (Flow.no_follow (by kernel_rfl)) (Flow.kz_cons (Flow.no_follow (by kernel_rfl)) Flow.kz_nil))) (Flow.met_none rfl) (fun a W hH => ?_) ?_
  · have e0 := Flow.see_new 24 14 hH.sees (by kernel_rfl) (by kernel_rfl) rfl rfl
    have e1 := Flow.see_new 22 11 hH.sees (by kernel_rfl) (by kernel_rfl) rfl rfl
    obtain ⟨_, hP⟩ := Flow.past_lin 13 hH.past (by kernel_rfl) (by kernel_rfl) rfl (by kernel_rfl)
    refine s_skip (s_store rfl (by kernel_rfl) hP e0 e1 (nr_size (by rw [Array.size_setIfInBounds]; omega))) ?_
    exact ⟨_, rfl, Chg.grown (s_grown _ _ _ _) (by rintro j h; cases h; rfl), nr_set hP _ (by rw [Array.size_setIfInBounds]; omega) _⟩
  refine Flow.pass_end [none, none, none, none, none, none, none, none, none, none, none, some 11, some 12, some 13, some 14, some 15, some 16, some 17, some 18, some 19, some 20, some 21, some 22, some 23, some 24, none, none, none, none, none, none, none, none, none, none, none, none, none, none, none, none, none, none, none, none, none, none, none, none, none, none, none, none, none, none, none, none, none, none, none, none, none, none, none, none, none, none, none, none, none, none, none, none, none, none, none, none, none, none, none, none, none, none, none] (by kernel_rfl) ?_
  intro f gg w9 hB hfa hT hfg
  have F3 : (fun W => Chg (OnlyG g) w W) w9 := hfa _ (List.mem_of_getElem? (i := 3) rfl) (Nat.le_refl _)
  have hN_W5 : NR w9 g (Sort.swp d (lo) (pv)) R := hT 15 _ (by kernel_rfl) rfl
  have hC_W5 := hC_w.trans F3
  simp only [Reg.sel]
  obtain ⟨W5, hWW5⟩ : ∃ W, W = w9 := ⟨_, rfl⟩
  subst hWW5
  clear hT hfg hfa hB F3
  rw [hd1] at hN_W5
  have hjw : IntKind.i64.wrap ((hi : Int) - 1) = (jj : Int) := by rw [IntWalk.i64_in _ (by omega)]; omega
  have hjj2 : jj < hi := by omega
  have HJJ := Lib.hid hjj
  clear hd1 hjj hN_w
  go_wp2
  go_loopw [9, 10] (fun i j wr => ∃ (x0 y0 : Nat) (d2 : Array Nat), lo + 1 ≤ x0 ∧ x0 ≤ hi ∧ y0 < hi ∧ i = .int .i64 (x0 : Int) ∧ j = .int .i64 (y0 : Int) ∧ Hid (Sort.partEqLoop ltN lo x0 y0 d2 = RES) ∧ d2.size = n ∧ NR wr g d2 R ∧ Chg (OnlyG g) w wr) (fun i j _ => (intOf j + 1 - intOf i).toNat)
  case atStart => exact ⟨lo + 1, jj, d1, by omega, by omega, by omega, by first | rfl | go_num, by first | rfl | go_num, HPL0, hn1, hN_W5, hC_W5⟩
  case round =>
    obtain ⟨x0, y0, d2, hx0, hx0h, hy0, rfl, rfl, hPL, hn2, hN_wr, hC_wr⟩ := hrel
    obtain ⟨IU, hIU⟩ : ∃ u, Sort.scanUp (fun x => !ltN d2[lo]! x) d2 y0 x0 = u := ⟨_, rfl⟩
    have hIU := Lib.hid hIU
    try go_wp2
    go_loopw [9] (fun i wr => ∃ x : Nat, x0 ≤ x ∧ x ≤ hi ∧ i = .int .i64 (x : Int) ∧ Hid (Sort.scanUp (fun x => !ltN d2[lo]! x) d2 y0 x = IU) ∧ NR wr g d2 R ∧ Chg (OnlyG g) w wr) (fun i _ => hi + 1 - (intOf i).toNat)
    case atStart => exact ⟨x0, Nat.le_refl _, by omega, by first | rfl | go_num, hIU, hN_wr, hC_wr⟩
    case round =>
      obtain ⟨x, hx1, hx2, rfl, hS, hN_wr, hC_wr⟩ := hrel
      go_upto_region 3 with (fail)
      refine s_cut [none, none, none, none, none, none, none, none, none, none, none, none, none, none, none, none, none, none, none, none, none, none, none, none, none, none, none, none, none, some 29, some 30, some 31, some 32, some 33, some 34, some 35, some 36, some 37, some 38, some 39, some 40, some 41, some 42, some 43, none, none, none, none, none, none, none, none, none, none, none, none, none, none, none, none, none, none, none, none, none, none, none, none, none, none, none, none, none, none, none, none, none, none, none, none, none, none, none, none] (fun f W => f 43 = .bool (decide (x ≤ y0) && !ltN d2[lo]! d2[x]!) ∧ Below wr.heap.size wr W) (fun Q1 hQ1 => ?_) ?_
      · by_cases hg : x ≤ y0
        · skip
          refine Flow.wp_region_flow (wr.heap.size) [] [] (by kernel_rfl) (by kernel_rfl) (Nat.le_refl _) (fun _ h => by cases h) Flow.facts_nil ?_
          refine Flow.pass_old (X := .int .i64 ((x : Int))) 9 (Flow.met_none rfl) (.inl rfl) (by kernel_rfl) (by kernel_rfl) rfl ?_
          refine Flow.pass_old (X := .int .i64 ((y0 : Int))) 10 (Flow.met_none rfl) (.inl rfl) (by kernel_rfl) (by kernel_rfl) rfl ?_
          refine Flow.pass_val (.bool true) (Flow.met_none rfl) (fun a W hH => ?_) ?_
          · have e0 := Flow.see_new 29 0 hH.sees (by kernel_rfl) (by kernel_rfl) rfl rfl
            have e1 := Flow.see_new 30 1 hH.sees (by kernel_rfl) (by kernel_rfl) rfl rfl
            go_simp; first | done | rfl | omega | (simp; done) | (simp; omega) | exact decide_eq_true (by omega) | exact decide_eq_false (by omega)
          refine Flow.pass_copy 31 2 (Flow.met_none rfl) (.inl rfl) (by kernel_rfl) (by kernel_rfl) rfl rfl (fun _ _ => Flow.kept_eqs _ _) ?_
          refine Flow.pass_old (X := .slice (some ⟨g, 0, none⟩) n cap) 0 (Flow.met_some 3 true 32 rfl rfl (by kernel_rfl) (by kernel_rfl) rfl rfl) (.inl rfl) (by kernel_rfl) (by kernel_rfl) rfl ?_
          refine Flow.pass_old (X := .int .i64 ((lo : Int))) 1 (Flow.met_some 3 true 32 rfl rfl (by kernel_rfl) (by kernel_rfl) rfl rfl) (.inl rfl) (by kernel_rfl) (by kernel_rfl) rfl ?_
          refine Flow.pass_val (.pointer (some ⟨g, lo, none⟩)) (Flow.met_some 3 true 32 rfl rfl (by kernel_rfl) (by kernel_rfl) rfl rfl) (fun a W hH => ?_) ?_
          · have e0 := Flow.see_new 33 4 hH.sees (by kernel_rfl) (by kernel_rfl) rfl rfl
            have e1 := Flow.see_new 34 5 hH.sees (by kernel_rfl) (by kernel_rfl) rfl rfl
            exact s_ixS (s := 1) (lo) _ rfl Tryz.underlying74 (by kernel_rfl) (by first | exact e0 | simpa [Act.eval] using e0 | (simp [Act.eval])) (by first | exact e1 | simpa [Act.eval] using e1 | (simp [Act.eval])) (by omega) (by omega) (by omega)
          refine Flow.pass_val (.int .u64 ((d2[lo]! : Nat) : Int)) (Flow.met_some 3 true 32 rfl rfl (by kernel_rfl) (by kernel_rfl) rfl rfl) (fun a W hH => ?_) ?_
          · have e0 := Flow.see_new 35 6 hH.sees (by kernel_rfl) (by kernel_rfl) rfl rfl
            have cc := nr_cell (hN_wr.below ((Below.refl wr.heap.size wr).drew.trans hH.below) hN_wr.lt) (lo) (by omega); go_simp; first | done | rfl
          refine Flow.pass_old (X := .slice (some ⟨g, 0, none⟩) n cap) 0 (Flow.met_some 3 true 32 rfl rfl (by kernel_rfl) (by kernel_rfl) rfl rfl) (.inl rfl) (by kernel_rfl) (by kernel_rfl) rfl ?_
          refine Flow.pass_old (X := .int .i64 ((x : Int))) 9 (Flow.met_some 3 true 32 rfl rfl (by kernel_rfl) (by kernel_rfl) rfl rfl) (.inl rfl) (by kernel_rfl) (by kernel_rfl) rfl ?_
          refine Flow.pass_val (.pointer (some ⟨g, x, none⟩)) (Flow.met_some 3 true 32 rfl rfl (by kernel_rfl) (by kernel_rfl) rfl rfl) (fun a W hH => ?_) ?_
          · have e0 := Flow.see_new 37 8 hH.sees (by kernel_rfl) (by kernel_rfl) rfl rfl
            have e1 := Flow.see_new 38 9 hH.sees (by kernel_rfl) (by kernel_rfl) rfl rfl
            exact s_ixS (s := 1) (x) _ rfl Tryz.underlying74 (by kernel_rfl) (by first | exact e0 | simpa [Act.eval] using e0 | (simp [Act.eval])) (by first | exact e1 | simpa [Act.eval] using e1 | (simp [Act.eval])) (by omega) (by omega) (by omega)
          refine Flow.pass_val (.int .u64 ((d2[x]! : Nat) : Int)) (Flow.met_some 3 true 32 rfl rfl (by kernel_rfl) (by kernel_rfl) rfl rfl) (fun a W hH => ?_) ?_
          · have e0 := Flow.see_new 39 10 hH.sees (by kernel_rfl) (by kernel_rfl) rfl rfl
            have cc := nr_cell (hN_wr.below ((Below.refl wr.heap.size wr).drew.trans hH.below) hN_wr.lt) (x) (by omega); go_simp; first | done | rfl
          refine Flow.pass_step (Reg.eqs (.bool (ltN (d2[lo]!) (d2[x]!)))) (fun _ _ => Flow.kept_eqs _ _) (Flow.met_some 3 true 32 rfl rfl (by kernel_rfl) (by kernel_rfl) rfl rfl) (fun a W hH => ?_) ?_
          · have e0 := Flow.see_new 36 7 hH.sees (by kernel_rfl) (by kernel_rfl) rfl rfl
            have e1 := Flow.see_new 40 11 hH.sees (by kernel_rfl) (by kernel_rfl) rfl rfl
            refine Reg.wp_call rfl Tryz.func162 rfl (by kernel_rfl) (by simp [Act.eval, e0, e1]) (lessN (d2[lo]!) (d2[x]!) W) ?_
            rintro e w' ⟨rfl, rfl⟩
            exact ⟨_, rfl, _, rfl, Ext.refl _, rfl⟩
          refine Flow.pass_val (.bool (!(ltN (d2[lo]!) (d2[x]!)))) (Flow.met_some 3 true 32 rfl rfl (by kernel_rfl) (by kernel_rfl) rfl rfl) (fun a W hH => ?_) ?_
          · have e0 := Flow.see_new 41 12 hH.sees (by kernel_rfl) (by kernel_rfl) rfl rfl
            go_simp; first | done | rfl
          refine Flow.pass_val (.bool (!(ltN (d2[lo]!) (d2[x]!)))) (Flow.met_none rfl) (fun a W hH => ?_) ?_
          · have e0 := Flow.see_new 32 3 hH.sees (by kernel_rfl) (by kernel_rfl) rfl rfl
            have e1 := Flow.see_new 42 13 hH.sees (by kernel_rfl) (by kernel_rfl) rfl rfl
            go_simp; first | done | rfl
          refine Flow.pass_end [none, none, none, none, none, none, none, none, none, none, none, none, none, none, none, none, none, none, none, none, none, none, none, none, none, none, none, none, none, some 29, some 30, some 31, some 32, some 33, some 34, some 35, some 36, some 37, some 38, some 39, some 40, some 41, some 42, some 43, none, none, none, none, none, none, none, none, none, none, none, none, none, none, none, none, none, none, none, none, none, none, none, none, none, none, none, none, none, none, none, none, none, none, none, none, none, none, none, none] (by kernel_rfl) ?_
          intro f gg w9 hB hfa hT hfg
          have h43 : f 43 = _ := (hfg 43 14 (by kernel_rfl)).trans (hT 14 _ (by kernel_rfl) rfl)
          exact hQ1 f w9 ⟨by rw [h43, decide_eq_true hg, Bool.true_and], (Below.refl wr.heap.size wr).drew.trans hB⟩
        · skip
          refine Flow.wp_region_flow (wr.heap.size) [] [] (by kernel_rfl) (by kernel_rfl) (Nat.le_refl _) (fun _ h => by cases h) Flow.facts_nil ?_
          refine Flow.pass_old (X := .int .i64 ((x : Int))) 9 (Flow.met_none rfl) (.inl rfl) (by kernel_rfl) (by kernel_rfl) rfl ?_
          refine Flow.pass_old (X := .int .i64 ((y0 : Int))) 10 (Flow.met_none rfl) (.inl rfl) (by kernel_rfl) (by kernel_rfl) rfl ?_
          refine Flow.pass_val (.bool false) (Flow.met_none rfl) (fun a W hH => ?_) ?_
          · have e0 := Flow.see_new 29 0 hH.sees (by kernel_rfl) (by kernel_rfl) rfl rfl
            have e1 := Flow.see_new 30 1 hH.sees (by kernel_rfl) (by kernel_rfl) rfl rfl
            go_simp; first | done | rfl | omega | (simp; done) | (simp; omega) | exact decide_eq_true (by omega) | exact decide_eq_false (by omega)
          refine Flow.pass_copy 31 2 (Flow.met_none rfl) (.inl rfl) (by kernel_rfl) (by kernel_rfl) rfl rfl (fun _ _ => Flow.kept_eqs _ _) ?_
          refine Flow.pass_skip (fun a W hH => Flow.not_wanted 3 true 32 hH rfl rfl (by kernel_rfl) (by kernel_rfl) rfl rfl) ?_
          refine Flow.pass_skip (fun a W hH => Flow.not_wanted 3 true 32 hH rfl rfl (by kernel_rfl) (by kernel_rfl) rfl rfl) ?_
          refine Flow.pass_skip (fun a W hH => Flow.not_wanted 3 true 32 hH rfl rfl (by kernel_rfl) (by kernel_rfl) rfl rfl) ?_
          refine Flow.pass_skip (fun a W hH => Flow.not_wanted 3 true 32 hH rfl rfl (by kernel_rfl) (by kernel_rfl) rfl rfl) ?_
          refine Flow.pass_skip (fun a W hH => Flow.not_wanted 3 true 32 hH rfl rfl (by kernel_rfl) (by kernel_rfl) rfl rfl) ?_
          refine Flow.pass_skip (fun a W hH => Flow.not_wanted 3 true 32 hH rfl rfl (by kernel_rfl) (by kernel_rfl) rfl rfl) ?_
          refine Flow.pass_skip (fun a W hH => Flow.not_wanted 3 true 32 hH rfl rfl (by kernel_rfl) (by kernel_rfl) rfl rfl) ?_
          refine Flow.pass_skip (fun a W hH => Flow.not_wanted 3 true 32 hH rfl rfl (by kernel_rfl) (by kernel_rfl) rfl rfl) ?_
          refine Flow.pass_skip (fun a W hH => Flow.not_wanted 3 true 32 hH rfl rfl (by kernel_rfl) (by kernel_rfl) rfl rfl) ?_
          refine Flow.pass_skip (fun a W hH => Flow.not_wanted 3 true 32 hH rfl rfl (by kernel_rfl) (by kernel_rfl) rfl rfl) ?_
          refine Flow.pass_val (.bool false) (Flow.met_none rfl) (fun a W hH => ?_) ?_
          · have e0 := Flow.see_new 32 3 hH.sees (by kernel_rfl) (by kernel_rfl) rfl rfl
            have e1 := Flow.see_new 42 13 hH.sees (by kernel_rfl) (by kernel_rfl) rfl rfl
            go_simp; first | done | rfl
          refine Flow.pass_end [none, none, none, none, none, none, none, none, none, none, none, none, none, none, none, none, none, none, none, none, none, none, none, none, none, none, none, none, none, some 29, some 30, some 31, some 32, some 33, some 34, some 35, some 36, some 37, some 38, some 39, some 40, some 41, some 42, some 43, none, none, none, none, none, none, none, none, none, none, none, none, none, none, none, none, none, none, none, none, none, none, none, none, none, none, none, none, none, none, none, none, none, none, none, none, none, none, none, none] (by kernel_rfl) ?_
          intro f gg w9 hB hfa hT hfg
          have h43 : f 43 = _ := (hfg 43 14 (by kernel_rfl)).trans (hT 14 _ (by kernel_rfl) rfl)
          exact hQ1 f w9 ⟨by rw [h43, decide_eq_false hg, Bool.false_and], (Below.refl wr.heap.size wr).drew.trans hB⟩
      intro f Wu ⟨h43, hBWu⟩
      simp only [Reg.sel, h43]
      have hN_Wu := Blk.below hN_wr hBWu (Blk.lt hN_wr)
      have hC_Wu := hC_wr.trans (Chg.of_ext hBWu)
      clear h43 hBWu
      cases hq : (decide (x ≤ y0) && !ltN d2[lo]! d2[x]!) with
      | true =>
        have hst := Lib.hid (scanUp_step (p := fun x => !ltN d2[lo]! x) hq)
        have hxy : x ≤ y0 := by simp only [Bool.and_eq_true, decide_eq_true_eq] at hq; exact hq.1
        clear hq
        go_wp2
        go_roundw
        case rel => first | exact ⟨x + 1, by omega, by omega, by go_num, Lib.hid (by rw [← hst.out]; exact hS.out), hN_Wu, hC_Wu⟩ | ((repeat apply Exists.intro); refine ⟨?_, rfl⟩; exact ⟨x + 1, by omega, by omega, by go_num, Lib.hid (by rw [← hst.out]; exact hS.out), hN_Wu, hC_Wu⟩)
        case measure => first | (simp [intOf]; done) | (simp [intOf]; omega) | (simp only [intOf]; omega)
      | false =>
        have hxe : IU = x := by rw [← hS.out]; exact scanUp_stop (p := fun x => !ltN d2[lo]! x) hq
        have HXE := Lib.hid hxe
        have hIUx : Hid (Sort.scanUp (fun x => !ltN d2[lo]! x) d2 y0 x0 = x) := Lib.hid (by rw [hIU.out, hxe])
        clear hq hS hxe hIU HXE
        obtain ⟨JU, hJU⟩ : ∃ u, Sort.scanDown (fun x => ltN d2[lo]! x) d2 x y0 = u := ⟨_, rfl⟩
        have hJU := Lib.hid hJU
        go_wp2
        go_loopw [10] (fun j wr => ∃ y : Nat, y ≤ y0 ∧ j = .int .i64 (y : Int) ∧ Hid (Sort.scanDown (fun x => ltN d2[lo]! x) d2 x y = JU) ∧ NR wr g d2 R ∧ Chg (OnlyG g) w wr) (fun j _ => (intOf j).toNat)
        case atStart => exact ⟨y0, Nat.le_refl _, by first | rfl | go_num, hJU, hN_Wu, hC_Wu⟩
        case round =>
          obtain ⟨y, hy1, rfl, hS, hN_wr, hC_wr⟩ := hrel
          go_upto_region 5 with (fail)
          refine s_cut [none, none, none, none, none, none, none, none, none, none, none, none, none, none, none, none, none, none, none, none, none, none, none, none, none, none, none, none, none, none, none, none, none, none, none, none, none, none, none, none, none, none, none, none, none, none, some 46, some 47, some 48, some 49, some 50, some 51, some 52, some 53, some 54, some 55, some 56, some 57, some 58, some 59, none, none, none, none, none, none, none, none, none, none, none, none, none, none, none, none, none, none, none, none, none, none, none, none] (fun f W => f 59 = .bool (decide (x ≤ y) && ltN d2[lo]! d2[y]!) ∧ Below wr.heap.size wr W) (fun Q1 hQ1 => ?_) ?_
          · by_cases hg : x ≤ y
            · skip
              refine Flow.wp_region_flow (wr.heap.size) [] [] (by kernel_rfl) (by kernel_rfl) (Nat.le_refl _) (fun _ h => by cases h) Flow.facts_nil ?_
              refine Flow.pass_old (X := .int .i64 ((x : Int))) 9 (Flow.met_none rfl) (.inl rfl) (by kernel_rfl) (by kernel_rfl) rfl ?_
              refine Flow.pass_old (X := .int .i64 ((y : Int))) 10 (Flow.met_none rfl) (.inl rfl) (by kernel_rfl) (by kernel_rfl) rfl ?_
              refine Flow.pass_val (.bool true) (Flow.met_none rfl) (fun a W hH => ?_) ?_
              · have e0 := Flow.see_new 46 0 hH.sees (by kernel_rfl) (by kernel_rfl) rfl rfl
                have e1 := Flow.see_new 47 1 hH.sees (by kernel_rfl) (by kernel_rfl) rfl rfl
                go_simp; first | done | rfl | omega | (simp; done) | (simp; omega) | exact decide_eq_true (by omega) | exact decide_eq_false (by omega)
              refine Flow.pass_copy 48 2 (Flow.met_none rfl) (.inl rfl) (by kernel_rfl) (by kernel_rfl) rfl rfl (fun _ _ => Flow.kept_eqs _ _) ?_
              refine Flow.pass_old (X := .slice (some ⟨g, 0, none⟩) n cap) 0 (Flow.met_some 3 true 49 rfl rfl (by kernel_rfl) (by kernel_rfl) rfl rfl) (.inl rfl) (by kernel_rfl) (by kernel_rfl) rfl ?_
              refine Flow.pass_old (X := .int .i64 ((lo : Int))) 1 (Flow.met_some 3 true 49 rfl rfl (by kernel_rfl) (by kernel_rfl) rfl rfl) (.inl rfl) (by kernel_rfl) (by kernel_rfl) rfl ?_
              refine Flow.pass_val (.pointer (some ⟨g, lo, none⟩)) (Flow.met_some 3 true 49 rfl rfl (by kernel_rfl) (by kernel_rfl) rfl rfl) (fun a W hH => ?_) ?_
              · have e0 := Flow.see_new 50 4 hH.sees (by kernel_rfl) (by kernel_rfl) rfl rfl
                have e1 := Flow.see_new 51 5 hH.sees (by kernel_rfl) (by kernel_rfl) rfl rfl
                exact s_ixS (s := 1) (lo) _ rfl Tryz.underlying74 (by kernel_rfl) (by first | exact e0 | simpa [Act.eval] using e0 | (simp [Act.eval])) (by first | exact e1 | simpa [Act.eval] using e1 | (simp [Act.eval])) (by omega) (by omega) (by omega)
              refine Flow.pass_val (.int .u64 ((d2[lo]! : Nat) : Int)) (Flow.met_some 3 true 49 rfl rfl (by kernel_rfl) (by kernel_rfl) rfl rfl) (fun a W hH => ?_) ?_
              · have e0 := Flow.see_new 52 6 hH.sees (by kernel_rfl) (by kernel_rfl) rfl rfl
                have cc := nr_cell (hN_wr.below ((Below.refl wr.heap.size wr).drew.trans hH.below) hN_wr.lt) (lo) (by omega); go_simp; first | done | rfl
              refine Flow.pass_old (X := .slice (some ⟨g, 0, none⟩) n cap) 0 (Flow.met_some 3 true 49 rfl rfl (by kernel_rfl) (by kernel_rfl) rfl rfl) (.inl rfl) (by kernel_rfl) (by kernel_rfl) rfl ?_
              refine Flow.pass_old (X := .int .i64 ((y : Int))) 10 (Flow.met_some 3 true 49 rfl rfl (by kernel_rfl) (by kernel_rfl) rfl rfl) (.inl rfl) (by kernel_rfl) (by kernel_rfl) rfl ?_
              refine Flow.pass_val (.pointer (some ⟨g, y, none⟩)) (Flow.met_some 3 true 49 rfl rfl (by kernel_rfl) (by kernel_rfl) rfl rfl) (fun a W hH => ?_) ?_
              · have e0 := Flow.see_new 54 8 hH.sees (by kernel_rfl) (by kernel_rfl) rfl rfl
                have e1 := Flow.see_new 55 9 hH.sees (by kernel_rfl) (by kernel_rfl) rfl rfl
                exact s_ixS (s := 1) (y) _ rfl Tryz.underlying74 (by kernel_rfl) (by first | exact e0 | simpa [Act.eval] using e0 | (simp [Act.eval])) (by first | exact e1 | simpa [Act.eval] using e1 | (simp [Act.eval])) (by omega) (by omega) (by omega)
              refine Flow.pass_val (.int .u64 ((d2[y]! : Nat) : Int)) (Flow.met_some 3 true 49 rfl rfl (by kernel_rfl) (by kernel_rfl) rfl rfl) (fun a W hH => ?_) ?_
              · have e0 := Flow.see_new 56 10 hH.sees (by kernel_rfl) (by kernel_rfl) rfl rfl
                have cc := nr_cell (hN_wr.below ((Below.refl wr.heap.size wr).drew.trans hH.below) hN_wr.lt) (y) (by omega); go_simp; first | done | rfl
              refine Flow.pass_step (Reg.eqs (.bool (ltN (d2[lo]!) (d2[y]!)))) (fun _ _ => Flow.kept_eqs _ _) (Flow.met_some 3 true 49 rfl rfl (by kernel_rfl) (by kernel_rfl) rfl rfl) (fun a W hH => ?_) ?_
              · have e0 := Flow.see_new 53 7 hH.sees (by kernel_rfl) (by kernel_rfl) rfl rfl
                have e1 := Flow.see_new 57 11 hH.sees (by kernel_rfl) (by kernel_rfl) rfl rfl
                refine Reg.wp_call rfl Tryz.func162 rfl (by kernel_rfl) (by simp [Act.eval, e0, e1]) (lessN (d2[lo]!) (d2[y]!) W) ?_
                rintro e w' ⟨rfl, rfl⟩
                exact ⟨_, rfl, _, rfl, Ext.refl _, rfl⟩
              refine Flow.pass_val (.bool (ltN (d2[lo]!) (d2[y]!))) (Flow.met_none rfl) (fun a W hH => ?_) ?_
              · have e0 := Flow.see_new 49 3 hH.sees (by kernel_rfl) (by kernel_rfl) rfl rfl
                have e1 := Flow.see_new 58 12 hH.sees (by kernel_rfl) (by kernel_rfl) rfl rfl
                go_simp; first | done | rfl
              refine Flow.pass_end [none, none, none, none, none, none, none, none, none, none, none, none, none, none, none, none, none, none, none, none, none, none, none, none, none, none, none, none, none, none, none, none, none, none, none, none, none, none, none, none, none, none, none, none, none, none, some 46, some 47, some 48, some 49, some 50, some 51, some 52, some 53, some 54, some 55, some 56, some 57, some 58, some 59, none, none, none, none, none, none, none, none, none, none, none, none, none, none, none, none, none, none, none, none, none, none, none, none] (by kernel_rfl) ?_
              intro f gg w9 hB hfa hT hfg
              have h59 : f 59 = _ := (hfg 59 13 (by kernel_rfl)).trans (hT 13 _ (by kernel_rfl) rfl)
              exact hQ1 f w9 ⟨by rw [h59, decide_eq_true hg, Bool.true_and], (Below.refl wr.heap.size wr).drew.trans hB⟩
            · skip
              refine Flow.wp_region_flow (wr.heap.size) [] [] (by kernel_rfl) (by kernel_rfl) (Nat.le_refl _) (fun _ h => by cases h) Flow.facts_nil ?_
              refine Flow.pass_old (X := .int .i64 ((x : Int))) 9 (Flow.met_none rfl) (.inl rfl) (by kernel_rfl) (by kernel_rfl) rfl ?_
              refine Flow.pass_old (X := .int .i64 ((y : Int))) 10 (Flow.met_none rfl) (.inl rfl) (by kernel_rfl) (by kernel_rfl) rfl ?_
              refine Flow.pass_val (.bool false) (Flow.met_none rfl) (fun a W hH => ?_) ?_
              · have e0 := Flow.see_new 46 0 hH.sees (by kernel_rfl) (by kernel_rfl) rfl rfl
                have e1 := Flow.see_new 47 1 hH.sees (by kernel_rfl) (by kernel_rfl) rfl rfl
                go_simp; first | done | rfl | omega | (simp; done) | (simp; omega) | exact decide_eq_true (by omega) | exact decide_eq_false (by omega)
              refine Flow.pass_copy 48 2 (Flow.met_none rfl) (.inl rfl) (by kernel_rfl) (by kernel_rfl) rfl rfl (fun _ _ => Flow.kept_eqs _ _) ?_
              refine Flow.pass_skip (fun a W hH => Flow.not_wanted 3 true 49 hH rfl rfl (by kernel_rfl) (by kernel_rfl) rfl rfl) ?_
              refine Flow.pass_skip (fun a W hH => Flow.not_wanted 3 true 49 hH rfl rfl (by kernel_rfl) (by kernel_rfl) rfl rfl) ?_
              refine Flow.pass_skip (fun a W hH => Flow.not_wanted 3 true 49 hH rfl rfl (by kernel_rfl) (by kernel_rfl) rfl rfl) ?_
              refine Flow.pass_skip (fun a W hH => Flow.not_wanted 3 true 49 hH rfl rfl (by kernel_rfl) (by kernel_rfl) rfl rfl) ?_
              refine Flow.pass_skip (fun a W hH => Flow.not_wanted 3 true 49 hH rfl rfl (by kernel_rfl) (by kernel_rfl) rfl rfl) ?_
              refine Flow.pass_skip (fun a W hH => Flow.not_wanted 3 true 49 hH rfl rfl (by kernel_rfl) (by kernel_rfl) rfl rfl) ?_
              refine Flow.pass_skip (fun a W hH => Flow.not_wanted 3 true 49 hH rfl rfl (by kernel_rfl) (by kernel_rfl) rfl rfl) ?_
              refine Flow.pass_skip (fun a W hH => Flow.not_wanted 3 true 49 hH rfl rfl (by kernel_rfl) (by kernel_rfl) rfl rfl) ?_
              refine Flow.pass_skip (fun a W hH => Flow.not_wanted 3 true 49 hH rfl rfl (by kernel_rfl) (by kernel_rfl) rfl rfl) ?_
              refine Flow.pass_val (.bool false) (Flow.met_none rfl) (fun a W hH => ?_) ?_
              · have e0 := Flow.see_new 49 3 hH.sees (by kernel_rfl) (by kernel_rfl) rfl rfl
                have e1 := Flow.see_new 58 12 hH.sees (by kernel_rfl) (by kernel_rfl) rfl rfl
                go_simp; first | done | rfl
              refine Flow.pass_end [none, none, none, none, none, none, none, none, none, none, none, none, none, none, none, none, none, none, none, none, none, none, none, none, none, none, none, none, none, none, none, none, none, none, none, none, none, none, none, none, none, none, none, none, none, none, some 46, some 47, some 48, some 49, some 50, some 51, some 52, some 53, some 54, some 55, some 56, some 57, some 58, some 59, none, none, none, none, none, none, none, none, none, none, none, none, none, none, none, none, none, none, none, none, none, none, none, none] (by kernel_rfl) ?_
              intro f gg w9 hB hfa hT hfg
              have h59 : f 59 = _ := (hfg 59 13 (by kernel_rfl)).trans (hT 13 _ (by kernel_rfl) rfl)
              exact hQ1 f w9 ⟨by rw [h59, decide_eq_false hg, Bool.false_and], (Below.refl wr.heap.size wr).drew.trans hB⟩
          intro f Wd ⟨h59, hBWd⟩
          simp only [Reg.sel, h59]
          have hN_Wd := Blk.below hN_wr hBWd (Blk.lt hN_wr)
          have hC_Wd := hC_wr.trans (Chg.of_ext hBWd)
          clear h59 hBWd
          cases hq : (decide (x ≤ y) && ltN d2[lo]! d2[y]!) with
          | true =>
            have hxy : x ≤ y := by simp only [Bool.and_eq_true, decide_eq_true_eq] at hq; exact hq.1
            have hst := Lib.hid (scanDown_step (p := fun x => ltN d2[lo]! x) (by omega) hq)
            clear hq
            go_wp2
            go_roundw
            case rel => first | exact ⟨y - 1, by omega, by go_num, Lib.hid (by rw [← hst.out]; exact hS.out), hN_Wd, hC_Wd⟩ | ((repeat apply Exists.intro); refine ⟨?_, rfl⟩; exact ⟨y - 1, by omega, by go_num, Lib.hid (by rw [← hst.out]; exact hS.out), hN_Wd, hC_Wd⟩)
            case measure => first | (simp [intOf]; done) | (simp [intOf]; omega) | (simp only [intOf]; omega)
          | false =>
            have hye : JU = y := by rw [← hS.out]; exact scanDown_stop (p := fun x => ltN d2[lo]! x) hq
            have hJUy : Hid (Sort.scanDown (fun x => ltN d2[lo]! x) d2 x y0 = y) := Lib.hid (by rw [hJU.out, hye])
            clear hq hS hye hJU
            by_cases hc : y < x
            · have hci : (y : Int) < (x : Int) := by omega
              have hre : Hid (RES = (x, d2)) := Lib.hid (by rw [← hPL.out]; exact partEq_stop hIUx.out hJUy.out hc)
              go_wp2
              go_ret
              refine ⟨?_, ?_, hC_Wd⟩
              · rw [hre.out]; rfl
              · rw [hre.out]; exact hN_Wd
            · have hci : ¬ (y : Int) < (x : Int) := by omega
              have hst : Hid (Sort.partEqLoop ltN lo (x + 1) (y - 1) (Sort.swp d2 x y) = RES) := Lib.hid (by rw [← hPL.out]; exact (partEq_step hIUx.out hJUy.out hc hx1 hy1 (by omega)).symm)
              go_wp2
              go_upto_region 8 with (fail)
              refine Flow.wp_region_flow (g) [(13, fun b => b = g), (15, fun b => b = g)] [(7, fun W => NR W g d2 R), (11, fun W => NR W g d2 R), (13, fun W => NR W g d2 R), (16, fun W => Chg (OnlyG g) Wd W)] (by kernel_rfl) (by kernel_rfl) (Nat.le_of_lt hN_Wd.lt) (Flow.nz_cons (by rintro b rfl; exact Nat.le_refl _) (Flow.nz_cons (by rintro b rfl; exact Nat.le_refl _) Flow.nz_nil)) (Flow.facts_cons (hN_Wd.drew) (Flow.kept_blk id) (Flow.fz_cons (Flow.no_follow (by kernel_rfl)) (Flow.fz_cons (Flow.no_follow (by kernel_rfl)) Flow.fz_nil)) (Flow.facts_cons (hN_Wd.drew) (Flow.kept_blk id) (Flow.fz_cons (Flow.no_follow (by kernel_rfl)) (Flow.fz_cons (Flow.no_follow (by kernel_rfl)) Flow.fz_nil)) (Flow.facts_cons (hN_Wd.drew) (Flow.kept_blk id) (Flow.fz_cons (Flow.no_follow (by kernel_rfl)) (Flow.fz_cons (Flow.no_follow (by kernel_rfl)) Flow.fz_nil)) (Flow.facts_cons ((Chg.refl _ _).drew) (fun _ _ c h => onlyg_trans h c (by first | exact fun _ hj => hj | exact fun _ hj => hj.elim)) (Flow.fz_cons (fun _ => fun _ _ c h => onlyg_trans h c (by first | exact fun _ hj => hj | exact fun _ hj => hj.elim)) (Flow.fz_cons (fun _ => fun _ _ c h => onlyg_trans h c (by first | exact fun _ hj => hj | exact fun _ hj => hj.elim)) Flow.fz_nil)) Flow.facts_nil)))) ?_
              refine Flow.pass_old (X := .slice (some ⟨g, 0, none⟩) n cap) 0 (Flow.met_none rfl) (.inl rfl) (by kernel_rfl) (by kernel_rfl) rfl ?_
              refine Flow.pass_old (X := .int .i64 ((x : Int))) 9 (Flow.met_none rfl) (.inl rfl) (by kernel_rfl) (by kernel_rfl) rfl ?_
              refine Flow.pass_old (X := .slice (some ⟨g, 0, none⟩) n cap) 0 (Flow.met_none rfl) (.inl rfl) (by kernel_rfl) (by kernel_rfl) rfl ?_
              refine Flow.pass_old (X := .int .i64 ((y : Int))) 10 (Flow.met_none rfl) (.inl rfl) (by kernel_rfl) (by kernel_rfl) rfl ?_
              refine Flow.pass_old (X := .slice (some ⟨g, 0, none⟩) n cap) 0 (Flow.met_none rfl) (.inl rfl) (by kernel_rfl) (by kernel_rfl) rfl ?_
              refine Flow.pass_old (X := .int .i64 ((y : Int))) 10 (Flow.met_none rfl) (.inl rfl) (by kernel_rfl) (by kernel_rfl) rfl ?_
              refine Flow.pass_val (.pointer (some ⟨g, y, none⟩)) (Flow.met_none rfl) (fun a W hH => ?_) ?_
              · have e0 := Flow.see_new 69 4 hH.sees (by kernel_rfl) (by kernel_rfl) rfl rfl
                have e1 := Flow.see_new 70 5 hH.sees (by kernel_rfl) (by kernel_rfl) rfl rfl
                exact s_ixS (s := 1) (y) _ rfl Tryz.underlying74 (by kernel_rfl) (by first | exact e0 | simpa [Act.eval] using e0 | (simp [Act.eval])) (by first | exact e1 | simpa [Act.eval] using e1 | (simp [Act.eval])) (by omega) (by omega) (by omega)
              refine Flow.pass_val (.int .u64 ((d2[y]! : Nat) : Int)) (Flow.met_none rfl) (fun a W hH => ?_) ?_
              · have e0 := Flow.see_new 71 6 hH.sees (by kernel_rfl) (by kernel_rfl) rfl rfl
                have fa0 : (fun W => NR W g d2 R) W := hH.fact _ (List.mem_of_getElem? (i := 0) rfl) rfl
                have cc := nr_cell fa0 (y) (by omega); go_simp; first | done | rfl
              refine Flow.pass_old (X := .slice (some ⟨g, 0, none⟩) n cap) 0 (Flow.met_none rfl) (.inl rfl) (by kernel_rfl) (by kernel_rfl) rfl ?_
              refine Flow.pass_old (X := .int .i64 ((x : Int))) 9 (Flow.met_none rfl) (.inl rfl) (by kernel_rfl) (by kernel_rfl) rfl ?_
              refine Flow.pass_val (.pointer (some ⟨g, x, none⟩)) (Flow.met_none rfl) (fun a W hH => ?_) ?_
              · have e0 := Flow.see_new 73 8 hH.sees (by kernel_rfl) (by kernel_rfl) rfl rfl
                have e1 := Flow.see_new 74 9 hH.sees (by kernel_rfl) (by kernel_rfl) rfl rfl
                exact s_ixS (s := 1) (x) _ rfl Tryz.underlying74 (by kernel_rfl) (by first | exact e0 | simpa [Act.eval] using e0 | (simp [Act.eval])) (by first | exact e1 | simpa [Act.eval] using e1 | (simp [Act.eval])) (by omega) (by omega) (by omega)
              refine Flow.pass_val (.int .u64 ((d2[x]! : Nat) : Int)) (Flow.met_none rfl) (fun a W hH => ?_) ?_
              · have e0 := Flow.see_new 75 10 hH.sees (by kernel_rfl) (by kernel_rfl) rfl rfl
                have fa1 : (fun W => NR W g d2 R) W := hH.fact _ (List.mem_of_getElem? (i := 1) rfl) rfl
                have cc := nr_cell fa1 (x) (by omega); go_simp; first | done | rfl
              refine Flow.pass_val (.pointer (some ⟨g, x, none⟩)) (Flow.met_none rfl) (fun a W hH => ?_) ?_
              · have e0 := Flow.see_new 65 0 hH.sees (by kernel_rfl) (by kernel_rfl) rfl rfl
                have e1 := Flow.see_new 66 1 hH.sees (by kernel_rfl) (by kernel_rfl) rfl rfl
                exact s_ixS (s := 1) (x) _ rfl Tryz.underlying74 (by kernel_rfl) (by first | exact e0 | simpa [Act.eval] using e0 | (simp [Act.eval])) (by first | exact e1 | simpa [Act.eval] using e1 | (simp [Act.eval])) (by omega) (by omega) (by omega)
              refine Flow.pass_lin [15] (fun _ W => NR W g (d2.setIfInBounds (x) (d2[y]!)) R) (Flow.kept_lin [15] (fun _ _ _ c h => h.chg c id) (Flow.lz_cons (Flow.no_follow (by kernel_rfl)) (Flow.lz_cons (fun _ => .inl rfl) Flow.lz_nil))) (Flow.met_none rfl) (fun a W hH => ?_) ?_
              · have e0 := Flow.see_new 77 12 hH.sees (by kernel_rfl) (by kernel_rfl) rfl rfl
                have e1 := Flow.see_new 72 7 hH.sees (by kernel_rfl) (by kernel_rfl) rfl rfl
                have fa2 : (fun W => NR W g d2 R) W := hH.fact _ (List.mem_of_getElem? (i := 2) rfl) rfl
                refine s_skip (s_store rfl (by kernel_rfl) fa2 e0 e1 (nr_size (by omega))) ?_
                exact ⟨_, rfl, Chg.grown (s_grown _ _ _ _) (by rintro j h; cases h; rfl), nr_set fa2 _ (by omega) _⟩
              refine Flow.pass_val (.pointer (some ⟨g, y, none⟩)) (Flow.met_none rfl) (fun a W hH => ?_) ?_
              · have e0 := Flow.see_new 67 2 hH.sees (by kernel_rfl) (by kernel_rfl) rfl rfl
                have e1 := Flow.see_new 68 3 hH.sees (by kernel_rfl) (by kernel_rfl) rfl rfl
                exact s_ixS (s := 1) (y) _ rfl Tryz.underlying74 (by kernel_rfl) (by first | exact e0 | simpa [Act.eval] using e0 | (simp [Act.eval])) (by first | exact e1 | simpa [Act.eval] using e1 | (simp [Act.eval])) (by omega) (by omega) (by omega)
              refine Flow.pass_gen (fun _ W => NR W g ((d2.setIfInBounds (x) (d2[y]!)).setIfInBounds (y) (d2[x]!)) R) (Flow.kept_of (fun _ _ _ c h => h.chg c id) (Flow.kz_cons (Flow.no_follow (by kernel_rfl)) (Flow.kz_cons (Flow.no_follow (by kernel_rfl)) Flow.kz_nil))) (Flow.met_none rfl) (fun a W hH => ?_) ?_
              · have e0 := Flow.see_new 78 14 hH.sees (by kernel_rfl) (by kernel_rfl) rfl rfl
                have e1 := Flow.see_new 76 11 hH.sees (by kernel_rfl) (by kernel_rfl) rfl rfl
                obtain ⟨_, hP⟩ := Flow.past_lin 13 hH.past (by kernel_rfl) (by kernel_rfl) rfl (by kernel_rfl)
                refine s_skip (s_store rfl (by kernel_rfl) hP e0 e1 (nr_size (by rw [Array.size_setIfInBounds]; omega))) ?_
                exact ⟨_, rfl, Chg.grown (s_grown _ _ _ _) (by rintro j h; cases h; rfl), nr_set hP _ (by rw [Array.size_setIfInBounds]; omega) _⟩
              refine Flow.pass_end [none, none, none, none, none, none, none, none, none, none, none, none, none, none, none, none, none, none, none, none, none, none, none, none, none, none, none, none, none, none, none, none, none, none, none, none, none, none, none, none, none, none, none, none, none, none, none, none, none, none, none, none, none, none, none, none, none, none, none, none, none, none, none, none, none, some 65, some 66, some 67, some 68, some 69, some 70, some 71, some 72, some 73, some 74, some 75, some 76, some 77, some 78, none, none, none, none, none] (by kernel_rfl) ?_
              intro f gg w9 hB hfa hT hfg
              have F3 : (fun W => Chg (OnlyG g) Wd W) w9 := hfa _ (List.mem_of_getElem? (i := 3) rfl) (Nat.le_refl _)
              have hN_W8 : NR w9 g (Sort.swp d2 (x) (y)) R := hT 15 _ (by kernel_rfl) rfl
              have hC_W8 := hC_Wd.trans F3
              simp only [Reg.sel]
              obtain ⟨W8, hWW8⟩ : ∃ W, W = w9 := ⟨_, rfl⟩
              subst hWW8
              clear hT hfg hfa hB F3
              go_wp2
              go_roundw
              case rel => first | exact ⟨x + 1, y - 1, _, by omega, by omega, by omega, by go_num, by go_num, hst, by rw [swp_size]; exact hn2, hN_W8, hC_W8⟩ | ((repeat apply Exists.intro); refine ⟨?_, rfl⟩; exact ⟨x + 1, y - 1, _, by omega, by omega, by omega, by go_num, by go_num, hst, by rw [swp_size]; exact hn2, hN_W8, hC_W8⟩)
              case measure => first | (simp [intOf]; done) | (simp [intOf]; omega) | (simp only [intOf]; omega)
end Go.Proofs.YtipdmhppadapkaaGreatDoor
/-
  Walk: partialInsertionSortOrdered at uint64.
-/
namespace Go.Proofs.YtipdmhppadapkaaGreatDoor
open Go.RowKit

theorem scanSorted_step {d : Array Nat} {b i : Nat} (h : (decide (i < b) && !ltN d[i]! d[i - 1]!) = true) : Sort.scanSorted ltN d b i = Sort.scanSorted ltN d b (i + 1) := by rw [Sort.scanSorted, if_pos h]
theorem scanSorted_stop {d : Array Nat} {b i : Nat} (h : (decide (i < b) && !ltN d[i]! d[i - 1]!) = false) : Sort.scanSorted ltN d b i = i := by rw [Sort.scanSorted, if_neg (by rw [h]; simp)]
theorem shiftDown_step {d : Array Nat} {z : Nat} (hz : 1 ≤ z) (h : ltN d[z]! d[z - 1]! = true) : Sort.shiftDown ltN z d = Sort.shiftDown ltN (z - 1) (Sort.swp d z (z - 1)) := by
  obtain ⟨k, rfl⟩ : ∃ k, z = k + 1 := ⟨z - 1, by omega⟩
  rw [Nat.add_sub_cancel] at *
  rw [Sort.shiftDown, h]; rfl
theorem shiftDown_stop {d : Array Nat} {z : Nat} (h : ltN d[z]! d[z - 1]! = false) : Sort.shiftDown ltN z d = d := by
  match z, h with
  | 0, _ => rfl
  | k + 1, h =>
    rw [Nat.add_sub_cancel] at h
    rw [Sort.shiftDown, h]; rfl
theorem shiftUp_step {d : Array Nat} {b u : Nat} (hu : u < b) (h : ltN d[u]! d[u - 1]! = true) : Sort.shiftUp ltN b u d = Sort.shiftUp ltN b (u + 1) (Sort.swp d u (u - 1)) := by rw [Sort.shiftUp, if_pos hu, h]; rfl
theorem shiftUp_stop {d : Array Nat} {b u : Nat} (h : (decide (u < b) && ltN d[u]! d[u - 1]!) = false) : Sort.shiftUp ltN b u d = d := by
  rw [Sort.shiftUp]
  by_cases hu : u < b
  · have h2 : ltN d[u]! d[u - 1]! = false := by simpa [hu] using h
    rw [if_pos hu, h2]; rfl
  · rw [if_neg hu]
theorem pins_end {lo hi s x : Nat} {d : Array Nat} (h1 : Sort.scanSorted ltN d hi x = hi) : Sort.partialIns ltN lo hi (s + 1) x d = (d, true) := by rw [Sort.partialIns]; simp only [h1, if_true]
theorem pins_short {lo hi s x y : Nat} {d : Array Nat} (h1 : Sort.scanSorted ltN d hi x = y) (h2 : ¬ y = hi) (h3 : hi - lo < 50) : Sort.partialIns ltN lo hi (s + 1) x d = (d, false) := by rw [Sort.partialIns]; simp only [h1, if_neg h2, if_pos h3]
theorem pins_step {lo hi s x y : Nat} {d : Array Nat} (h1 : Sort.scanSorted ltN d hi x = y) (h2 : ¬ y = hi) (h3 : ¬ hi - lo < 50) :
    Sort.partialIns ltN lo hi (s + 1) x d = Sort.partialIns ltN lo hi s y (if hi - y ≥ 2 then Sort.shiftUp ltN hi (y + 1) (if y - lo ≥ 2 then Sort.shiftDown ltN (y - 1) (Sort.swp d y (y - 1)) else Sort.swp d y (y - 1)) else (if y - lo ≥ 2 then Sort.shiftDown ltN (y - 1) (Sort.swp d y (y - 1)) else Sort.swp d y (y - 1))) := by
  rw [Sort.partialIns]; simp only [h1, if_neg h2, if_neg h3]

set_option maxRecDepth 100000 in
set_option maxHeartbeats 8000000 in
theorem partialIns_walk (g : Nat) (R : List Value) (d : Array Nat) (n cap lo hi : Nat) (hn : d.size = n) (hlo : lo < hi) (hhi : hi ≤ n) (hn5 : n ≤ 1000000) (w : World) (hN : NR w g d R) :
    Calls Tryz.prog 161 #[.slice (some ⟨g, 0, none⟩) n cap, .int .i64 (lo : Int), .int .i64 (hi : Int)] w fun e w' =>
      e = .returned (.bool (Sort.partialInsertionSort ltN d lo hi).2) ∧ NR w' g (Sort.partialInsertionSort ltN d lo hi).1 R ∧ Chg (OnlyG g) w w' := by
  obtain ⟨RES, hRES⟩ : ∃ X, Sort.partialInsertionSort ltN d lo hi = X := ⟨_, rfl⟩
  rw [hRES]
  have h0 : Hid (Sort.partialIns ltN lo hi 5 (lo + 1) d = RES) := Lib.hid hRES
  have hLw : IntKind.i64.wrap ((hi : Int) - (lo : Int)) = (hi : Int) - (lo : Int) := IntWalk.i64_in _ (by omega)
  clear hRES
  go_enter Tryz.func161, Tryz.ntmps161
  go_wp2
  go_loopw [7, 8] (fun i j wr => ∃ (x J s : Nat) (d1 : Array Nat), i = .int .i64 (x : Int) ∧ j = .int .i64 (J : Int) ∧ J + s = 5 ∧ lo + 1 ≤ x ∧ x ≤ hi ∧ Hid (Sort.partialIns ltN lo hi s x d1 = RES) ∧ d1.size = n ∧ NR wr g d1 R ∧ Chg (OnlyG g) w wr) (fun _ j _ => (5 - intOf j).toNat)
  case atStart => exact ⟨lo + 1, 0, 5, d, by go_num, rfl, rfl, Nat.le_refl _, by omega, h0, hn, hN, Chg.refl _ _⟩
  case round =>
    obtain ⟨x, J, s, d1, rfl, rfl, hJ, hx1, hx2, hP, hn1, hN_wr, hC_wr⟩ := hrel
    by_cases hs0 : 0 < s
    · obtain ⟨s, rfl⟩ : ∃ k, s = k + 1 := ⟨s - 1, by omega⟩
      have hJi : (J : Int) < 5 := by omega
      obtain ⟨I1, hI1⟩ : ∃ X, Sort.scanSorted ltN d1 hi x = X := ⟨_, rfl⟩
      have hI1 := Lib.hid hI1
      go_wp2
      go_loopw [7] (fun i wr => ∃ y : Nat, x ≤ y ∧ y ≤ hi ∧ i = .int .i64 (y : Int) ∧ Hid (Sort.scanSorted ltN d1 hi y = I1) ∧ NR wr g d1 R ∧ Chg (OnlyG g) w wr) (fun i _ => hi + 1 - (intOf i).toNat)
      case atStart => exact ⟨x, Nat.le_refl _, hx2, rfl, hI1, hN_wr, hC_wr⟩
      case round =>
        obtain ⟨y, hy1, hy2, rfl, hS, hN_wr, hC_wr⟩ := hrel
        go_upto_region 5 with (fail)
        refine s_cut [none, none, none, none, none, none, none, none, none, none, none, none, none, none, none, none, none, some 17, some 18, some 19, some 20, some 21, some 22, some 23, some 24, some 25, some 26, some 27, some 28, some 29, some 30, some 31, some 32, none, none, none, none, none, none, none, none, none, none, none, none, none, none, none, none, none, none, none, none, none, none, none, none, none, none, none, none, none, none, none, none, none, none, none, none, none, none, none, none, none, none, none, none, none, none, none, none, none, none, none, none, none, none, none, none, none, none, none, none, none, none, none, none, none, none, none, none, none, none, none, none, none, none, none, none, none, none, none, none, none, none, none, none, none, none, none, none, none, none, none, none, none, none, none, none, none, none, none, none] (fun f W => f 32 = .bool (decide (y < hi) && !ltN d1[y]! d1[y - 1]!) ∧ Below wr.heap.size wr W) (fun Q1 hQ1 => ?_) ?_
        · by_cases hg : y < hi
          · skip
            refine Flow.wp_region_flow (wr.heap.size) [] [] (by kernel_rfl) (by kernel_rfl) (Nat.le_refl _) (fun _ h => by cases h) Flow.facts_nil ?_
            refine Flow.pass_old (X := .int .i64 ((y : Int))) 7 (Flow.met_none rfl) (.inl rfl) (by kernel_rfl) (by kernel_rfl) rfl ?_
            refine Flow.pass_old (X := .int .i64 ((hi : Int))) 2 (Flow.met_none rfl) (.inl rfl) (by kernel_rfl) (by kernel_rfl) rfl ?_
            refine Flow.pass_val (.bool true) (Flow.met_none rfl) (fun a W hH => ?_) ?_
            · have e0 := Flow.see_new 17 0 hH.sees (by kernel_rfl) (by kernel_rfl) rfl rfl
              have e1 := Flow.see_new 18 1 hH.sees (by kernel_rfl) (by kernel_rfl) rfl rfl
              go_simp; first | done | rfl | omega | (simp; done) | (simp; omega) | exact decide_eq_true (by omega) | exact decide_eq_false (by omega)
            refine Flow.pass_copy 19 2 (Flow.met_none rfl) (.inl rfl) (by kernel_rfl) (by kernel_rfl) rfl rfl (fun _ _ => Flow.kept_eqs _ _) ?_
            refine Flow.pass_old (X := .slice (some ⟨g, 0, none⟩) n cap) 0 (Flow.met_some 3 true 20 rfl rfl (by kernel_rfl) (by kernel_rfl) rfl rfl) (.inl rfl) (by kernel_rfl) (by kernel_rfl) rfl ?_
            refine Flow.pass_old (X := .int .i64 ((y : Int))) 7 (Flow.met_some 3 true 20 rfl rfl (by kernel_rfl) (by kernel_rfl) rfl rfl) (.inl rfl) (by kernel_rfl) (by kernel_rfl) rfl ?_
            refine Flow.pass_val (.pointer (some ⟨g, y, none⟩)) (Flow.met_some 3 true 20 rfl rfl (by kernel_rfl) (by kernel_rfl) rfl rfl) (fun a W hH => ?_) ?_
            · have e0 := Flow.see_new 21 4 hH.sees (by kernel_rfl) (by kernel_rfl) rfl rfl
              have e1 := Flow.see_new 22 5 hH.sees (by kernel_rfl) (by kernel_rfl) rfl rfl
              exact s_ixS (s := 1) (y) _ rfl Tryz.underlying74 (by kernel_rfl) (by first | exact e0 | simpa [Act.eval] using e0 | (simp [Act.eval])) (by first | exact e1 | simpa [Act.eval] using e1 | (simp [Act.eval])) (by omega) (by omega) (by omega)
            refine Flow.pass_val (.int .u64 ((d1[y]! : Nat) : Int)) (Flow.met_some 3 true 20 rfl rfl (by kernel_rfl) (by kernel_rfl) rfl rfl) (fun a W hH => ?_) ?_
            · have e0 := Flow.see_new 23 6 hH.sees (by kernel_rfl) (by kernel_rfl) rfl rfl
              have cc := nr_cell (hN_wr.below ((Below.refl wr.heap.size wr).drew.trans hH.below) hN_wr.lt) (y) (by omega); go_simp; first | done | rfl
            refine Flow.pass_old (X := .slice (some ⟨g, 0, none⟩) n cap) 0 (Flow.met_some 3 true 20 rfl rfl (by kernel_rfl) (by kernel_rfl) rfl rfl) (.inl rfl) (by kernel_rfl) (by kernel_rfl) rfl ?_
            refine Flow.pass_old (X := .int .i64 ((y : Int))) 7 (Flow.met_some 3 true 20 rfl rfl (by kernel_rfl) (by kernel_rfl) rfl rfl) (.inl rfl) (by kernel_rfl) (by kernel_rfl) rfl ?_
            refine Flow.pass_val (.int .i64 ((y : Int) - 1)) (Flow.met_some 3 true 20 rfl rfl (by kernel_rfl) (by kernel_rfl) rfl rfl) (fun a W hH => ?_) ?_
            · have e0 := Flow.see_new 26 9 hH.sees (by kernel_rfl) (by kernel_rfl) rfl rfl
              go_simp; first | done | rfl | (rw [IntWalk.i64_in _ (by omega)]; first | done | rfl | omega | (simp; done))
            refine Flow.pass_val (.pointer (some ⟨g, (y - 1), none⟩)) (Flow.met_some 3 true 20 rfl rfl (by kernel_rfl) (by kernel_rfl) rfl rfl) (fun a W hH => ?_) ?_
            · have e0 := Flow.see_new 25 8 hH.sees (by kernel_rfl) (by kernel_rfl) rfl rfl
              have e1 := Flow.see_new 27 10 hH.sees (by kernel_rfl) (by kernel_rfl) rfl rfl
              exact s_ixS (s := 1) ((y - 1)) _ rfl Tryz.underlying74 (by kernel_rfl) (by first | exact e0 | simpa [Act.eval] using e0 | (simp [Act.eval])) (by first | exact e1 | simpa [Act.eval] using e1 | (simp [Act.eval])) (by omega) (by omega) (by omega)
            refine Flow.pass_val (.int .u64 ((d1[(y - 1)]! : Nat) : Int)) (Flow.met_some 3 true 20 rfl rfl (by kernel_rfl) (by kernel_rfl) rfl rfl) (fun a W hH => ?_) ?_
            · have e0 := Flow.see_new 28 11 hH.sees (by kernel_rfl) (by kernel_rfl) rfl rfl
              have cc := nr_cell (hN_wr.below ((Below.refl wr.heap.size wr).drew.trans hH.below) hN_wr.lt) ((y - 1)) (by omega); go_simp; first | done | rfl
            refine Flow.pass_step (Reg.eqs (.bool (ltN (d1[y]!) (d1[(y - 1)]!)))) (fun _ _ => Flow.kept_eqs _ _) (Flow.met_some 3 true 20 rfl rfl (by kernel_rfl) (by kernel_rfl) rfl rfl) (fun a W hH => ?_) ?_
            · have e0 := Flow.see_new 24 7 hH.sees (by kernel_rfl) (by kernel_rfl) rfl rfl
              have e1 := Flow.see_new 29 12 hH.sees (by kernel_rfl) (by kernel_rfl) rfl rfl
              refine Reg.wp_call rfl Tryz.func162 rfl (by kernel_rfl) (by simp [Act.eval, e0, e1]) (lessN (d1[y]!) (d1[(y - 1)]!) W) ?_
              rintro e w' ⟨rfl, rfl⟩
              exact ⟨_, rfl, _, rfl, Ext.refl _, rfl⟩
            refine Flow.pass_val (.bool (!(ltN (d1[y]!) (d1[(y - 1)]!)))) (Flow.met_some 3 true 20 rfl rfl (by kernel_rfl) (by kernel_rfl) rfl rfl) (fun a W hH => ?_) ?_
            · have e0 := Flow.see_new 30 13 hH.sees (by kernel_rfl) (by kernel_rfl) rfl rfl
              go_simp; first | done | rfl
            refine Flow.pass_val (.bool (!(ltN (d1[y]!) (d1[(y - 1)]!)))) (Flow.met_none rfl) (fun a W hH => ?_) ?_
            · have e0 := Flow.see_new 20 3 hH.sees (by kernel_rfl) (by kernel_rfl) rfl rfl
              have e1 := Flow.see_new 31 14 hH.sees (by kernel_rfl) (by kernel_rfl) rfl rfl
              go_simp; first | done | rfl
            refine Flow.pass_end [none, none, none, none, none, none, none, none, none, none, none, none, none, none, none, none, none, some 17, some 18, some 19, some 20, some 21, some 22, some 23, some 24, some 25, some 26, some 27, some 28, some 29, some 30, some 31, some 32, none, none, none, none, none, none, none, none, none, none, none, none, none, none, none, none, none, none, none, none, none, none, none, none, none, none, none, none, none, none, none, none, none, none, none, none, none, none, none, none, none, none, none, none, none, none, none, none, none, none, none, none, none, none, none, none, none, none, none, none, none, none, none, none, none, none, none, none, none, none, none, none, none, none, none, none, none, none, none, none, none, none, none, none, none, none, none, none, none, none, none, none, none, none, none, none, none, none, none, none] (by kernel_rfl) ?_
            intro f gg w9 hB hfa hT hfg
            have h32 : f 32 = _ := (hfg 32 15 (by kernel_rfl)).trans (hT 15 _ (by kernel_rfl) rfl)
            exact hQ1 f w9 ⟨by rw [h32, decide_eq_true hg, Bool.true_and], (Below.refl wr.heap.size wr).drew.trans hB⟩
          · skip
            refine Flow.wp_region_flow (wr.heap.size) [] [] (by kernel_rfl) (by kernel_rfl) (Nat.le_refl _) (fun _ h => by cases h) Flow.facts_nil ?_
            refine Flow.pass_old (X := .int .i64 ((y : Int))) 7 (Flow.met_none rfl) (.inl rfl) (by kernel_rfl) (by kernel_rfl) rfl ?_
            refine Flow.pass_old (X := .int .i64 ((hi : Int))) 2 (Flow.met_none rfl) (.inl rfl) (by kernel_rfl) (by kernel_rfl) rfl ?_
            refine Flow.pass_val (.bool false) (Flow.met_none rfl) (fun a W hH => ?_) ?_
            · have e0 := Flow.see_new 17 0 hH.sees (by kernel_rfl) (by kernel_rfl) rfl rfl
              have e1 := Flow.see_new 18 1 hH.sees (by kernel_rfl) (by kernel_rfl) rfl rfl
              go_simp; first | done | rfl | omega | (simp; done) | (simp; omega) | exact decide_eq_true (by omega) | exact decide_eq_false (by omega)
            refine Flow.pass_copy 19 2 (Flow.met_none rfl) (.inl rfl) (by kernel_rfl) (by kernel_rfl) rfl rfl (fun _ _ => Flow.kept_eqs _ _) ?_
            refine Flow.pass_skip (fun a W hH => Flow.not_wanted 3 true 20 hH rfl rfl (by kernel_rfl) (by kernel_rfl) rfl rfl) ?_
            refine Flow.pass_skip (fun a W hH => Flow.not_wanted 3 true 20 hH rfl rfl (by kernel_rfl) (by kernel_rfl) rfl rfl) ?_
            refine Flow.pass_skip (fun a W hH => Flow.not_wanted 3 true 20 hH rfl rfl (by kernel_rfl) (by kernel_rfl) rfl rfl) ?_
            refine Flow.pass_skip (fun a W hH => Flow.not_wanted 3 true 20 hH rfl rfl (by kernel_rfl) (by kernel_rfl) rfl rfl) ?_
            refine Flow.pass_skip (fun a W hH => Flow.not_wanted 3 true 20 hH rfl rfl (by kernel_rfl) (by kernel_rfl) rfl rfl) ?_
            refine Flow.pass_skip (fun a W hH => Flow.not_wanted 3 true 20 hH rfl rfl (by kernel_rfl) (by kernel_rfl) rfl rfl) ?_
            refine Flow.pass_skip (fun a W hH => Flow.not_wanted 3 true 20 hH rfl rfl (by kernel_rfl) (by kernel_rfl) rfl rfl) ?_
            refine Flow.pass_skip (fun a W hH => Flow.not_wanted 3 true 20 hH rfl rfl (by kernel_rfl) (by kernel_rfl) rfl rfl) ?_
            refine Flow.pass_skip (fun a W hH => Flow.not_wanted 3 true 20 hH rfl rfl (by kernel_rfl) (by kernel_rfl) rfl rfl) ?_
            refine Flow.pass_skip (fun a W hH => Flow.not_wanted 3 true 20 hH rfl rfl (by kernel_rfl) (by kernel_rfl) rfl rfl) ?_
            refine Flow.pass_skip (fun a W hH => Flow.not_wanted 3 true 20 hH rfl rfl (by kernel_rfl) (by kernel_rfl) rfl rfl) ?_
            refine Flow.pass_val (.bool false) (Flow.met_none rfl) (fun a W hH => ?_) ?_
            · have e0 := Flow.see_new 20 3 hH.sees (by kernel_rfl) (by kernel_rfl) rfl rfl
              have e1 := Flow.see_new 31 14 hH.sees (by kernel_rfl) (by kernel_rfl) rfl rfl
              go_simp; first | done | rfl
            refine Flow.pass_end [none, none, none, none, none, none, none, none, none, none, none, none, none, none, none, none, none, some 17, some 18, some 19, some 20, some 21, some 22, some 23, some 24, some 25, some 26, some 27, some 28, some 29, some 30, some 31, some 32, none, none, none, none, none, none, none, none, none, none, none, none, none, none, none, none, none, none, none, none, none, none, none, none, none, none, none, none, none, none, none, none, none, none, none, none, none, none, none, none, none, none, none, none, none, none, none, none, none, none, none, none, none, none, none, none, none, none, none, none, none, none, none, none, none, none, none, none, none, none, none, none, none, none, none, none, none, none, none, none, none, none, none, none, none, none, none, none, none, none, none, none, none, none, none, none, none, none, none, none] (by kernel_rfl) ?_
            intro f gg w9 hB hfa hT hfg
            have h32 : f 32 = _ := (hfg 32 15 (by kernel_rfl)).trans (hT 15 _ (by kernel_rfl) rfl)
            exact hQ1 f w9 ⟨by rw [h32, decide_eq_false hg, Bool.false_and], (Below.refl wr.heap.size wr).drew.trans hB⟩
        intro f Wu ⟨h32, hBWu⟩
        simp only [Reg.sel, h32]
        have hN_Wu := Blk.below hN_wr hBWu (Blk.lt hN_wr)
        have hC_Wu := hC_wr.trans (Chg.of_ext hBWu)
        clear h32 hBWu
        cases hq : (decide (y < hi) && !ltN d1[y]! d1[y - 1]!) with
        | true =>
          have hst := Lib.hid (scanSorted_step hq)
          have hyh : y < hi := by simp only [Bool.and_eq_true, decide_eq_true_eq] at hq; exact hq.1
          clear hq
          go_wp2
          go_roundw
          case rel => first | exact ⟨y + 1, by omega, by omega, by go_num, Lib.hid (by rw [← hst.out]; exact hS.out), hN_Wu, hC_Wu⟩ | ((repeat apply Exists.intro); refine ⟨?_, rfl⟩; exact ⟨y + 1, by omega, by omega, by go_num, Lib.hid (by rw [← hst.out]; exact hS.out), hN_Wu, hC_Wu⟩)
          case measure => first | (simp [intOf]; done) | (simp [intOf]; omega) | (simp only [intOf]; omega)
        | false =>
          have hSy : Hid (Sort.scanSorted ltN d1 hi x = y) := Lib.hid (by rw [hI1.out, ← hS.out]; exact scanSorted_stop hq)
          clear hq hS hI1
          by_cases hyb : y = hi
          · have hybi : (y : Int) = (hi : Int) := by omega
            subst hyb
            have hre : Hid (RES = (d1, true)) := Lib.hid (by rw [← hP.out]; exact pins_end hSy.out)
            go_wp2
            go_ret
            refine ⟨?_, ?_, hC_Wu⟩
            · rw [hre.out]; rfl
            · rw [hre.out]; exact hN_Wu
          · have hybi : ((y : Int) == (hi : Int)) = false := by simp; omega
            by_cases hL50 : hi - lo < 50
            · have hL50i : (hi : Int) - (lo : Int) < 50 := by omega
              have hre : Hid (RES = (d1, false)) := Lib.hid (by rw [← hP.out]; exact pins_short hSy.out hyb hL50)
              go_wp2
              go_ret
              refine ⟨?_, ?_, hC_Wu⟩
              · rw [hre.out]; rfl
              · rw [hre.out]; exact hN_Wu
            · have hL50i : ¬ (hi : Int) - (lo : Int) < 50 := by omega
              go_wp2_with fail
              refine Flow.wp_region_flow (g) [(15, fun b => b = g), (17, fun b => b = g)] [(9, fun W => NR W g d1 R), (13, fun W => NR W g d1 R), (15, fun W => NR W g d1 R), (18, fun W => Chg (OnlyG g) Wu W)] (by kernel_rfl) (by kernel_rfl) (Nat.le_of_lt hN_Wu.lt) (Flow.nz_cons (by rintro b rfl; exact Nat.le_refl _) (Flow.nz_cons (by rintro b rfl; exact Nat.le_refl _) Flow.nz_nil)) (Flow.facts_cons (hN_Wu.drew) (Flow.kept_blk id) (Flow.fz_cons (Flow.no_follow (by kernel_rfl)) (Flow.fz_cons (Flow.no_follow (by kernel_rfl)) Flow.fz_nil)) (Flow.facts_cons (hN_Wu.drew) (Flow.kept_blk id) (Flow.fz_cons (Flow.no_follow (by kernel_rfl)) (Flow.fz_cons (Flow.no_follow (by kernel_rfl)) Flow.fz_nil)) (Flow.facts_cons (hN_Wu.drew) (Flow.kept_blk id) (Flow.fz_cons (Flow.no_follow (by kernel_rfl)) (Flow.fz_cons (Flow.no_follow (by kernel_rfl)) Flow.fz_nil)) (Flow.facts_cons ((Chg.refl _ _).drew) (fun _ _ c h => onlyg_trans h c (by first | exact fun _ hj => hj | exact fun _ hj => hj.elim)) (Flow.fz_cons (fun _ => fun _ _ c h => onlyg_trans h c (by first | exact fun _ hj => hj | exact fun _ hj => hj.elim)) (Flow.fz_cons (fun _ => fun _ _ c h => onlyg_trans h c (by first | exact fun _ hj => hj | exact fun _ hj => hj.elim)) Flow.fz_nil)) Flow.facts_nil)))) ?_
              refine Flow.pass_old (X := .slice (some ⟨g, 0, none⟩) n cap) 0 (Flow.met_none rfl) (.inl rfl) (by kernel_rfl) (by kernel_rfl) rfl ?_
              refine Flow.pass_old (X := .int .i64 ((y : Int))) 7 (Flow.met_none rfl) (.inl rfl) (by kernel_rfl) (by kernel_rfl) rfl ?_
              refine Flow.pass_old (X := .slice (some ⟨g, 0, none⟩) n cap) 0 (Flow.met_none rfl) (.inl rfl) (by kernel_rfl) (by kernel_rfl) rfl ?_
              refine Flow.pass_old (X := .int .i64 ((y : Int))) 7 (Flow.met_none rfl) (.inl rfl) (by kernel_rfl) (by kernel_rfl) rfl ?_
              refine Flow.pass_val (.int .i64 ((y : Int) - 1)) (Flow.met_none rfl) (fun a W hH => ?_) ?_
              · have e0 := Flow.see_new 45 3 hH.sees (by kernel_rfl) (by kernel_rfl) rfl rfl
                go_simp; first | done | rfl | (rw [IntWalk.i64_in _ (by omega)]; first | done | rfl | omega | (simp; done))
              refine Flow.pass_old (X := .slice (some ⟨g, 0, none⟩) n cap) 0 (Flow.met_none rfl) (.inl rfl) (by kernel_rfl) (by kernel_rfl) rfl ?_
              refine Flow.pass_old (X := .int .i64 ((y : Int))) 7 (Flow.met_none rfl) (.inl rfl) (by kernel_rfl) (by kernel_rfl) rfl ?_
              refine Flow.pass_val (.int .i64 ((y : Int) - 1)) (Flow.met_none rfl) (fun a W hH => ?_) ?_
              · have e0 := Flow.see_new 48 6 hH.sees (by kernel_rfl) (by kernel_rfl) rfl rfl
                go_simp; first | done | rfl | (rw [IntWalk.i64_in _ (by omega)]; first | done | rfl | omega | (simp; done))
              refine Flow.pass_val (.pointer (some ⟨g, (y - 1), none⟩)) (Flow.met_none rfl) (fun a W hH => ?_) ?_
              · have e0 := Flow.see_new 47 5 hH.sees (by kernel_rfl) (by kernel_rfl) rfl rfl
                have e1 := Flow.see_new 49 7 hH.sees (by kernel_rfl) (by kernel_rfl) rfl rfl
                exact s_ixS (s := 1) ((y - 1)) _ rfl Tryz.underlying74 (by kernel_rfl) (by first | exact e0 | simpa [Act.eval] using e0 | (simp [Act.eval])) (by first | exact e1 | simpa [Act.eval] using e1 | (simp [Act.eval])) (by omega) (by omega) (by omega)
              refine Flow.pass_val (.int .u64 ((d1[(y - 1)]! : Nat) : Int)) (Flow.met_none rfl) (fun a W hH => ?_) ?_
              · have e0 := Flow.see_new 50 8 hH.sees (by kernel_rfl) (by kernel_rfl) rfl rfl
                have fa0 : (fun W => NR W g d1 R) W := hH.fact _ (List.mem_of_getElem? (i := 0) rfl) rfl
                have cc := nr_cell fa0 ((y - 1)) (by omega); go_simp; first | done | rfl
              refine Flow.pass_old (X := .slice (some ⟨g, 0, none⟩) n cap) 0 (Flow.met_none rfl) (.inl rfl) (by kernel_rfl) (by kernel_rfl) rfl ?_
              refine Flow.pass_old (X := .int .i64 ((y : Int))) 7 (Flow.met_none rfl) (.inl rfl) (by kernel_rfl) (by kernel_rfl) rfl ?_
              refine Flow.pass_val (.pointer (some ⟨g, y, none⟩)) (Flow.met_none rfl) (fun a W hH => ?_) ?_
              · have e0 := Flow.see_new 52 10 hH.sees (by kernel_rfl) (by kernel_rfl) rfl rfl
                have e1 := Flow.see_new 53 11 hH.sees (by kernel_rfl) (by kernel_rfl) rfl rfl
                exact s_ixS (s := 1) (y) _ rfl Tryz.underlying74 (by kernel_rfl) (by first | exact e0 | simpa [Act.eval] using e0 | (simp [Act.eval])) (by first | exact e1 | simpa [Act.eval] using e1 | (simp [Act.eval])) (by omega) (by omega) (by omega)
              refine Flow.pass_val (.int .u64 ((d1[y]! : Nat) : Int)) (Flow.met_none rfl) (fun a W hH => ?_) ?_
              · have e0 := Flow.see_new 54 12 hH.sees (by kernel_rfl) (by kernel_rfl) rfl rfl
                have fa1 : (fun W => NR W g d1 R) W := hH.fact _ (List.mem_of_getElem? (i := 1) rfl) rfl
                have cc := nr_cell fa1 (y) (by omega); go_simp; first | done | rfl
              refine Flow.pass_val (.pointer (some ⟨g, y, none⟩)) (Flow.met_none rfl) (fun a W hH => ?_) ?_
              · have e0 := Flow.see_new 42 0 hH.sees (by kernel_rfl) (by kernel_rfl) rfl rfl
                have e1 := Flow.see_new 43 1 hH.sees (by kernel_rfl) (by kernel_rfl) rfl rfl
                exact s_ixS (s := 1) (y) _ rfl Tryz.underlying74 (by kernel_rfl) (by first | exact e0 | simpa [Act.eval] using e0 | (simp [Act.eval])) (by first | exact e1 | simpa [Act.eval] using e1 | (simp [Act.eval])) (by omega) (by omega) (by omega)
              refine Flow.pass_lin [17] (fun _ W => NR W g (d1.setIfInBounds (y) (d1[(y - 1)]!)) R) (Flow.kept_lin [17] (fun _ _ _ c h => h.chg c id) (Flow.lz_cons (Flow.no_follow (by kernel_rfl)) (Flow.lz_cons (fun _ => .inl rfl) Flow.lz_nil))) (Flow.met_none rfl) (fun a W hH => ?_) ?_
              · have e0 := Flow.see_new 56 14 hH.sees (by kernel_rfl) (by kernel_rfl) rfl rfl
                have e1 := Flow.see_new 51 9 hH.sees (by kernel_rfl) (by kernel_rfl) rfl rfl
                have fa2 : (fun W => NR W g d1 R) W := hH.fact _ (List.mem_of_getElem? (i := 2) rfl) rfl
                refine s_skip (s_store rfl (by kernel_rfl) fa2 e0 e1 (nr_size (by omega))) ?_
                exact ⟨_, rfl, Chg.grown (s_grown _ _ _ _) (by rintro j h; cases h; rfl), nr_set fa2 _ (by omega) _⟩
              refine Flow.pass_val (.pointer (some ⟨g, (y - 1), none⟩)) (Flow.met_none rfl) (fun a W hH => ?_) ?_
              · have e0 := Flow.see_new 44 2 hH.sees (by kernel_rfl) (by kernel_rfl) rfl rfl
                have e1 := Flow.see_new 46 4 hH.sees (by kernel_rfl) (by kernel_rfl) rfl rfl
                exact s_ixS (s := 1) ((y - 1)) _ rfl Tryz.underlying74 (by kernel_rfl) (by first | exact e0 | simpa [Act.eval] using e0 | (simp [Act.eval])) (by first | exact e1 | simpa [Act.eval] using e1 | (simp [Act.eval])) (by omega) (by omega) (by omega)
              refine Flow.pass_gen (fun _ W => NR W g ((d1.setIfInBounds (y) (d1[(y - 1)]!)).setIfInBounds ((y - 1)) (d1[y]!)) R) (Flow.kept_of (fun _ _ _ c h => h.chg c id) (Flow.kz_cons (Flow.no_follow (by kernel_rfl)) (Flow.kz_cons (Flow.no_follow (by kernel_rfl)) Flow.kz_nil))) (Flow.met_none rfl) (fun a W hH => ?_) ?_
              · have e0 := Flow.see_new 57 16 hH.sees (by kernel_rfl) (by kernel_rfl) rfl rfl
                have e1 := Flow.see_new 55 13 hH.sees (by kernel_rfl) (by kernel_rfl) rfl rfl
                obtain ⟨_, hP⟩ := Flow.past_lin 15 hH.past (by kernel_rfl) (by kernel_rfl) rfl (by kernel_rfl)
                refine s_skip (s_store rfl (by kernel_rfl) hP e0 e1 (nr_size (by rw [Array.size_setIfInBounds]; omega))) ?_
                exact ⟨_, rfl, Chg.grown (s_grown _ _ _ _) (by rintro j h; cases h; rfl), nr_set hP _ (by rw [Array.size_setIfInBounds]; omega) _⟩
              refine Flow.pass_end [none, none, none, none, none, none, none, none, none, none, none, none, none, none, none, none, none, none, none, none, none, none, none, none, none, none, none, none, none, none, none, none, none, none, none, none, none, none, none, none, none, none, some 42, some 43, some 44, some 45, some 46, some 47, some 48, some 49, some 50, some 51, some 52, some 53, some 54, some 55, some 56, some 57, none, none, none, none, none, none, none, none, none, none, none, none, none, none, none, none, none, none, none, none, none, none, none, none, none, none, none, none, none, none, none, none, none, none, none, none, none, none, none, none, none, none, none, none, none, none, none, none, none, none, none, none, none, none, none, none, none, none, none, none, none, none, none, none, none, none, none, none, none, none, none, none, none, none, none] (by kernel_rfl) ?_
              intro f gg w9 hB hfa hT hfg
              have F3 : (fun W => Chg (OnlyG g) Wu W) w9 := hfa _ (List.mem_of_getElem? (i := 3) rfl) (Nat.le_refl _)
              have hN_Ws : NR w9 g (Sort.swp d1 (y) (y - 1)) R := hT 17 _ (by kernel_rfl) rfl
              have hC_Ws := hC_Wu.trans F3
              simp only [Reg.sel]
              obtain ⟨Ws, hWWs⟩ : ∃ W, W = w9 := ⟨_, rfl⟩
              subst hWWs
              clear hT hfg hfa hB F3
              obtain ⟨dS, hdS⟩ : ∃ X, Sort.swp d1 y (y - 1) = X := ⟨_, rfl⟩
              rw [hdS] at hN_Ws
              have hs_dS : dS.size = n := by rw [← hdS, swp_size]; exact hn1
              have hdS := Lib.hid hdS
              have hyw : IntKind.i64.wrap ((y : Int) - (lo : Int)) = (y : Int) - (lo : Int) := IntWalk.i64_in _ (by omega)
              have hyw2 : IntKind.i64.wrap ((hi : Int) - (y : Int)) = (hi : Int) - (y : Int) := IntWalk.i64_in _ (by omega)
              by_cases hd2 : 2 ≤ y - lo
              · obtain ⟨SD, hSD⟩ : ∃ X, Sort.shiftDown ltN (y - 1) dS = X := ⟨_, rfl⟩
                have hFA0 : Hid ((if y - lo ≥ 2 then Sort.shiftDown ltN (y - 1) dS else dS) = SD) := Lib.hid (by rw [if_pos hd2, hSD])
                have hSD := Lib.hid hSD
                have hd2i : (2 : Int) ≤ (y : Int) - (lo : Int) := by omega
                go_wp2
                go_loopw [9] (fun k wr => ∃ (z : Nat) (d3 : Array Nat), z < y ∧ k = .int .i64 (z : Int) ∧ Hid (Sort.shiftDown ltN z d3 = SD) ∧ d3.size = n ∧ NR wr g d3 R ∧ Chg (OnlyG g) w wr) (fun k _ => (intOf k).toNat)
                case atStart => exact ⟨y - 1, dS, by omega, by go_num, hSD, hs_dS, hN_Ws, hC_Ws⟩
                case round =>
                  obtain ⟨z, d3, hz1, rfl, hZ, hs_d3, hN_wr, hC_wr⟩ := hrel
                  by_cases hz0 : 1 ≤ z
                  · have hz0i : (1 : Int) ≤ (z : Int) := by omega
                    go_wp2_with fail
                    refine s_cut [none, none, none, none, none, none, none, none, none, none, none, none, none, none, none, none, none, none, none, none, none, none, none, none, none, none, none, none, none, none, none, none, none, none, none, none, none, none, none, none, none, none, none, none, none, none, none, none, none, none, none, none, none, none, none, none, none, none, none, none, none, none, none, none, none, none, none, none, some 68, some 69, some 70, some 71, some 72, some 73, some 74, some 75, some 76, some 77, some 78, none, none, none, none, none, none, none, none, none, none, none, none, none, none, none, none, none, none, none, none, none, none, none, none, none, none, none, none, none, none, none, none, none, none, none, none, none, none, none, none, none, none, none, none, none, none, none, none, none, none, none, none, none, none] (fun f W => f 78 = .bool (!ltN d3[z]! d3[z - 1]!) ∧ Below wr.heap.size wr W) (fun Q1 hQ1 => ?_) ?_
                    · skip
                      refine Flow.wp_region_flow (wr.heap.size) [] [] (by kernel_rfl) (by kernel_rfl) (Nat.le_refl _) (fun _ h => by cases h) Flow.facts_nil ?_
                      refine Flow.pass_old (X := .slice (some ⟨g, 0, none⟩) n cap) 0 (Flow.met_none rfl) (.inl rfl) (by kernel_rfl) (by kernel_rfl) rfl ?_
                      refine Flow.pass_old (X := .int .i64 ((z : Int))) 9 (Flow.met_none rfl) (.inl rfl) (by kernel_rfl) (by kernel_rfl) rfl ?_
                      refine Flow.pass_val (.pointer (some ⟨g, z, none⟩)) (Flow.met_none rfl) (fun a W hH => ?_) ?_
                      · have e0 := Flow.see_new 68 0 hH.sees (by kernel_rfl) (by kernel_rfl) rfl rfl
                        have e1 := Flow.see_new 69 1 hH.sees (by kernel_rfl) (by kernel_rfl) rfl rfl
                        exact s_ixS (s := 1) (z) _ rfl Tryz.underlying74 (by kernel_rfl) (by first | exact e0 | simpa [Act.eval] using e0 | (simp [Act.eval])) (by first | exact e1 | simpa [Act.eval] using e1 | (simp [Act.eval])) (by omega) (by omega) (by omega)
                      refine Flow.pass_val (.int .u64 ((d3[z]! : Nat) : Int)) (Flow.met_none rfl) (fun a W hH => ?_) ?_
                      · have e0 := Flow.see_new 70 2 hH.sees (by kernel_rfl) (by kernel_rfl) rfl rfl
                        have cc := nr_cell (hN_wr.below ((Below.refl wr.heap.size wr).drew.trans hH.below) hN_wr.lt) (z) (by omega); go_simp; first | done | rfl
                      refine Flow.pass_old (X := .slice (some ⟨g, 0, none⟩) n cap) 0 (Flow.met_none rfl) (.inl rfl) (by kernel_rfl) (by kernel_rfl) rfl ?_
                      refine Flow.pass_old (X := .int .i64 ((z : Int))) 9 (Flow.met_none rfl) (.inl rfl) (by kernel_rfl) (by kernel_rfl) rfl ?_
                      refine Flow.pass_val (.int .i64 ((z : Int) - 1)) (Flow.met_none rfl) (fun a W hH => ?_) ?_
                      · have e0 := Flow.see_new 73 5 hH.sees (by kernel_rfl) (by kernel_rfl) rfl rfl
                        go_simp; first | done | rfl | (rw [IntWalk.i64_in _ (by omega)]; first | done | rfl | omega | (simp; done))
                      refine Flow.pass_val (.pointer (some ⟨g, (z - 1), none⟩)) (Flow.met_none rfl) (fun a W hH => ?_) ?_
                      · have e0 := Flow.see_new 72 4 hH.sees (by kernel_rfl) (by kernel_rfl) rfl rfl
                        have e1 := Flow.see_new 74 6 hH.sees (by kernel_rfl) (by kernel_rfl) rfl rfl
                        exact s_ixS (s := 1) ((z - 1)) _ rfl Tryz.underlying74 (by kernel_rfl) (by first | exact e0 | simpa [Act.eval] using e0 | (simp [Act.eval])) (by first | exact e1 | simpa [Act.eval] using e1 | (simp [Act.eval])) (by omega) (by omega) (by omega)
                      refine Flow.pass_val (.int .u64 ((d3[(z - 1)]! : Nat) : Int)) (Flow.met_none rfl) (fun a W hH => ?_) ?_
                      · have e0 := Flow.see_new 75 7 hH.sees (by kernel_rfl) (by kernel_rfl) rfl rfl
                        have cc := nr_cell (hN_wr.below ((Below.refl wr.heap.size wr).drew.trans hH.below) hN_wr.lt) ((z - 1)) (by omega); go_simp; first | done | rfl
                      refine Flow.pass_step (Reg.eqs (.bool (ltN (d3[z]!) (d3[(z - 1)]!)))) (fun _ _ => Flow.kept_eqs _ _) (Flow.met_none rfl) (fun a W hH => ?_) ?_
                      · have e0 := Flow.see_new 71 3 hH.sees (by kernel_rfl) (by kernel_rfl) rfl rfl
                        have e1 := Flow.see_new 76 8 hH.sees (by kernel_rfl) (by kernel_rfl) rfl rfl
                        refine Reg.wp_call rfl Tryz.func162 rfl (by kernel_rfl) (by simp [Act.eval, e0, e1]) (lessN (d3[z]!) (d3[(z - 1)]!) W) ?_
                        rintro e w' ⟨rfl, rfl⟩
                        exact ⟨_, rfl, _, rfl, Ext.refl _, rfl⟩
                      refine Flow.pass_val (.bool (!(ltN (d3[z]!) (d3[(z - 1)]!)))) (Flow.met_none rfl) (fun a W hH => ?_) ?_
                      · have e0 := Flow.see_new 77 9 hH.sees (by kernel_rfl) (by kernel_rfl) rfl rfl
                        go_simp; first | done | rfl
                      refine Flow.pass_end [none, none, none, none, none, none, none, none, none, none, none, none, none, none, none, none, none, none, none, none, none, none, none, none, none, none, none, none, none, none, none, none, none, none, none, none, none, none, none, none, none, none, none, none, none, none, none, none, none, none, none, none, none, none, none, none, none, none, none, none, none, none, none, none, none, none, none, none, some 68, some 69, some 70, some 71, some 72, some 73, some 74, some 75, some 76, some 77, some 78, none, none, none, none, none, none, none, none, none, none, none, none, none, none, none, none, none, none, none, none, none, none, none, none, none, none, none, none, none, none, none, none, none, none, none, none, none, none, none, none, none, none, none, none, none, none, none, none, none, none, none, none, none, none] (by kernel_rfl) ?_
                      intro f gg w9 hB hfa hT hfg
                      have h78 : f 78 = _ := (hfg 78 10 (by kernel_rfl)).trans (hT 10 _ (by kernel_rfl) rfl)
                      exact hQ1 f w9 ⟨h78, (Below.refl wr.heap.size wr).drew.trans hB⟩
                    intro f Wq ⟨h78, hBWq⟩
                    simp only [Reg.sel, h78]
                    have hN_Wq := Blk.below hN_wr hBWq (Blk.lt hN_wr)
                    have hC_Wq := hC_wr.trans (Chg.of_ext hBWq)
                    clear h78 hBWq
                    cases hq : ltN d3[z]! d3[z - 1]! with
                    | false =>
                      have hFA : Hid ((if y - lo ≥ 2 then Sort.shiftDown ltN (y - 1) dS else dS) = d3) := Lib.hid (by rw [hFA0.out, ← hZ.out]; exact shiftDown_stop hq)
                      clear hq
                      by_cases hu2 : 2 ≤ hi - y
                      · obtain ⟨SU, hSU⟩ : ∃ X, Sort.shiftUp ltN hi (y + 1) d3 = X := ⟨_, rfl⟩
                        have hFB0 : Hid ((if hi - y ≥ 2 then Sort.shiftUp ltN hi (y + 1) d3 else d3) = SU) := Lib.hid (by rw [if_pos hu2, hSU])
                        have hSU := Lib.hid hSU
                        have hu2i : (2 : Int) ≤ (hi : Int) - (y : Int) := by omega
                        go_wp2
                        go_loopw [10] (fun k wr => ∃ (u : Nat) (d4 : Array Nat), y + 1 ≤ u ∧ u ≤ hi ∧ k = .int .i64 (u : Int) ∧ Hid (Sort.shiftUp ltN hi u d4 = SU) ∧ d4.size = n ∧ NR wr g d4 R ∧ Chg (OnlyG g) w wr) (fun k _ => hi + 1 - (intOf k).toNat)
                        case atStart => exact ⟨y + 1, d3, Nat.le_refl _, by omega, by first | rfl | go_num, hSU, hs_d3, hN_Wq, hC_Wq⟩
                        case round =>
                          obtain ⟨u, d4, hu1, huh, rfl, hU, hs_d4, hN_wr, hC_wr⟩ := hrel
                          by_cases huu : u < hi
                          · have huui : (u : Int) < (hi : Int) := by omega
                            go_wp2_with fail
                            refine s_cut [none, none, none, none, none, none, none, none, none, none, none, none, none, none, none, none, none, none, none, none, none, none, none, none, none, none, none, none, none, none, none, none, none, none, none, none, none, none, none, none, none, none, none, none, none, none, none, none, none, none, none, none, none, none, none, none, none, none, none, none, none, none, none, none, none, none, none, none, none, none, none, none, none, none, none, none, none, none, none, none, none, none, none, none, none, none, none, none, none, none, none, none, none, none, none, none, none, none, none, none, none, none, none, none, none, none, some 106, some 107, some 108, some 109, some 110, some 111, some 112, some 113, some 114, some 115, some 116, none, none, none, none, none, none, none, none, none, none, none, none, none, none, none, none] (fun f W => f 116 = .bool (!ltN d4[u]! d4[u - 1]!) ∧ Below wr.heap.size wr W) (fun Q1 hQ1 => ?_) ?_
                            · skip
                              refine Flow.wp_region_flow (wr.heap.size) [] [] (by kernel_rfl) (by kernel_rfl) (Nat.le_refl _) (fun _ h => by cases h) Flow.facts_nil ?_
                              refine Flow.pass_old (X := .slice (some ⟨g, 0, none⟩) n cap) 0 (Flow.met_none rfl) (.inl rfl) (by kernel_rfl) (by kernel_rfl) rfl ?_
                              refine Flow.pass_old (X := .int .i64 ((u : Int))) 10 (Flow.met_none rfl) (.inl rfl) (by kernel_rfl) (by kernel_rfl) rfl ?_
                              refine Flow.pass_val (.pointer (some ⟨g, u, none⟩)) (Flow.met_none rfl) (fun a W hH => ?_) ?_
                              · have e0 := Flow.see_new 106 0 hH.sees (by kernel_rfl) (by kernel_rfl) rfl rfl
                                have e1 := Flow.see_new 107 1 hH.sees (by kernel_rfl) (by kernel_rfl) rfl rfl
                                exact s_ixS (s := 1) (u) _ rfl Tryz.underlying74 (by kernel_rfl) (by first | exact e0 | simpa [Act.eval] using e0 | (simp [Act.eval])) (by first | exact e1 | simpa [Act.eval] using e1 | (simp [Act.eval])) (by omega) (by omega) (by omega)
                              refine Flow.pass_val (.int .u64 ((d4[u]! : Nat) : Int)) (Flow.met_none rfl) (fun a W hH => ?_) ?_
                              · have e0 := Flow.see_new 108 2 hH.sees (by kernel_rfl) (by kernel_rfl) rfl rfl
                                have cc := nr_cell (hN_wr.below ((Below.refl wr.heap.size wr).drew.trans hH.below) hN_wr.lt) (u) (by omega); go_simp; first | done | rfl
                              refine Flow.pass_old (X := .slice (some ⟨g, 0, none⟩) n cap) 0 (Flow.met_none rfl) (.inl rfl) (by kernel_rfl) (by kernel_rfl) rfl ?_
                              refine Flow.pass_old (X := .int .i64 ((u : Int))) 10 (Flow.met_none rfl) (.inl rfl) (by kernel_rfl) (by kernel_rfl) rfl ?_
                              refine Flow.pass_val (.int .i64 ((u : Int) - 1)) (Flow.met_none rfl) (fun a W hH => ?_) ?_
                              · have e0 := Flow.see_new 111 5 hH.sees (by kernel_rfl) (by kernel_rfl) rfl rfl
                                go_simp; first | done | rfl | (rw [IntWalk.i64_in _ (by omega)]; first | done | rfl | omega | (simp; done))
                              refine Flow.pass_val (.pointer (some ⟨g, (u - 1), none⟩)) (Flow.met_none rfl) (fun a W hH => ?_) ?_
                              · have e0 := Flow.see_new 110 4 hH.sees (by kernel_rfl) (by kernel_rfl) rfl rfl
                                have e1 := Flow.see_new 112 6 hH.sees (by kernel_rfl) (by kernel_rfl) rfl rfl
                                exact s_ixS (s := 1) ((u - 1)) _ rfl Tryz.underlying74 (by kernel_rfl) (by first | exact e0 | simpa [Act.eval] using e0 | (simp [Act.eval])) (by first | exact e1 | simpa [Act.eval] using e1 | (simp [Act.eval])) (by omega) (by omega) (by omega)
                              refine Flow.pass_val (.int .u64 ((d4[(u - 1)]! : Nat) : Int)) (Flow.met_none rfl) (fun a W hH => ?_) ?_
                              · have e0 := Flow.see_new 113 7 hH.sees (by kernel_rfl) (by kernel_rfl) rfl rfl
                                have cc := nr_cell (hN_wr.below ((Below.refl wr.heap.size wr).drew.trans hH.below) hN_wr.lt) ((u - 1)) (by omega); go_simp; first | done | rfl
                              refine Flow.pass_step (Reg.eqs (.bool (ltN (d4[u]!) (d4[(u - 1)]!)))) (fun _ _ => Flow.kept_eqs _ _) (Flow.met_none rfl) (fun a W hH => ?_) ?_
                              · have e0 := Flow.see_new 109 3 hH.sees (by kernel_rfl) (by kernel_rfl) rfl rfl
                                have e1 := Flow.see_new 114 8 hH.sees (by kernel_rfl) (by kernel_rfl) rfl rfl
                                refine Reg.wp_call rfl Tryz.func162 rfl (by kernel_rfl) (by simp [Act.eval, e0, e1]) (lessN (d4[u]!) (d4[(u - 1)]!) W) ?_
                                rintro e w' ⟨rfl, rfl⟩
                                exact ⟨_, rfl, _, rfl, Ext.refl _, rfl⟩
                              refine Flow.pass_val (.bool (!(ltN (d4[u]!) (d4[(u - 1)]!)))) (Flow.met_none rfl) (fun a W hH => ?_) ?_
                              · have e0 := Flow.see_new 115 9 hH.sees (by kernel_rfl) (by kernel_rfl) rfl rfl
                                go_simp; first | done | rfl
                              refine Flow.pass_end [none, none, none, none, none, none, none, none, none, none, none, none, none, none, none, none, none, none, none, none, none, none, none, none, none, none, none, none, none, none, none, none, none, none, none, none, none, none, none, none, none, none, none, none, none, none, none, none, none, none, none, none, none, none, none, none, none, none, none, none, none, none, none, none, none, none, none, none, none, none, none, none, none, none, none, none, none, none, none, none, none, none, none, none, none, none, none, none, none, none, none, none, none, none, none, none, none, none, none, none, none, none, none, none, none, none, some 106, some 107, some 108, some 109, some 110, some 111, some 112, some 113, some 114, some 115, some 116, none, none, none, none, none, none, none, none, none, none, none, none, none, none, none, none] (by kernel_rfl) ?_
                              intro f gg w9 hB hfa hT hfg
                              have h116 : f 116 = _ := (hfg 116 10 (by kernel_rfl)).trans (hT 10 _ (by kernel_rfl) rfl)
                              exact hQ1 f w9 ⟨h116, (Below.refl wr.heap.size wr).drew.trans hB⟩
                            intro f Wt ⟨h116, hBWt⟩
                            simp only [Reg.sel, h116]
                            have hN_Wt := Blk.below hN_wr hBWt (Blk.lt hN_wr)
                            have hC_Wt := hC_wr.trans (Chg.of_ext hBWt)
                            clear h116 hBWt
                            cases hq : ltN d4[u]! d4[u - 1]! with
                            | false =>
                              have hFB : Hid ((if hi - y ≥ 2 then Sort.shiftUp ltN hi (y + 1) d3 else d3) = d4) := Lib.hid (by rw [hFB0.out, ← hU.out]; exact shiftUp_stop (by rw [hq]; simp))
                              clear hq
                              have hnext : Hid (Sort.partialIns ltN lo hi s y d4 = RES) := Lib.hid (by rw [← hP.out, pins_step hSy.out hyb hL50, hdS.out, hFA.out, hFB.out])
                              go_wp2
                              go_roundw
                              case rel => first | exact ⟨y, J + 1, s, d4, rfl, by go_num, by omega, by omega, by omega, hnext, hs_d4, hN_Wt, hC_Wt⟩ | ((repeat apply Exists.intro); refine ⟨?_, rfl⟩; exact ⟨y, J + 1, s, d4, rfl, by go_num, by omega, by omega, by omega, hnext, hs_d4, hN_Wt, hC_Wt⟩)
                              case measure => first | (simp [intOf]; done) | (simp [intOf]; omega) | (simp only [intOf]; omega)
                            | true =>
                              have hst := Lib.hid (shiftUp_step huu hq)
                              clear hq
                              go_upto_region 23 with (fail)
                              refine Flow.wp_region_flow (g) [(15, fun b => b = g), (17, fun b => b = g)] [(9, fun W => NR W g d4 R), (13, fun W => NR W g d4 R), (15, fun W => NR W g d4 R), (18, fun W => Chg (OnlyG g) Wt W)] (by kernel_rfl) (by kernel_rfl) (Nat.le_of_lt hN_Wt.lt) (Flow.nz_cons (by rintro b rfl; exact Nat.le_refl _) (Flow.nz_cons (by rintro b rfl; exact Nat.le_refl _) Flow.nz_nil)) (Flow.facts_cons (hN_Wt.drew) (Flow.kept_blk id) (Flow.fz_cons (Flow.no_follow (by kernel_rfl)) (Flow.fz_cons (Flow.no_follow (by kernel_rfl)) Flow.fz_nil)) (Flow.facts_cons (hN_Wt.drew) (Flow.kept_blk id) (Flow.fz_cons (Flow.no_follow (by kernel_rfl)) (Flow.fz_cons (Flow.no_follow (by kernel_rfl)) Flow.fz_nil)) (Flow.facts_cons (hN_Wt.drew) (Flow.kept_blk id) (Flow.fz_cons (Flow.no_follow (by kernel_rfl)) (Flow.fz_cons (Flow.no_follow (by kernel_rfl)) Flow.fz_nil)) (Flow.facts_cons ((Chg.refl _ _).drew) (fun _ _ c h => onlyg_trans h c (by first | exact fun _ hj => hj | exact fun _ hj => hj.elim)) (Flow.fz_cons (fun _ => fun _ _ c h => onlyg_trans h c (by first | exact fun _ hj => hj | exact fun _ hj => hj.elim)) (Flow.fz_cons (fun _ => fun _ _ c h => onlyg_trans h c (by first | exact fun _ hj => hj | exact fun _ hj => hj.elim)) Flow.fz_nil)) Flow.facts_nil)))) ?_
                              refine Flow.pass_old (X := .slice (some ⟨g, 0, none⟩) n cap) 0 (Flow.met_none rfl) (.inl rfl) (by kernel_rfl) (by kernel_rfl) rfl ?_
                              refine Flow.pass_old (X := .int .i64 ((u : Int))) 10 (Flow.met_none rfl) (.inl rfl) (by kernel_rfl) (by kernel_rfl) rfl ?_
                              refine Flow.pass_old (X := .slice (some ⟨g, 0, none⟩) n cap) 0 (Flow.met_none rfl) (.inl rfl) (by kernel_rfl) (by kernel_rfl) rfl ?_
                              refine Flow.pass_old (X := .int .i64 ((u : Int))) 10 (Flow.met_none rfl) (.inl rfl) (by kernel_rfl) (by kernel_rfl) rfl ?_
                              refine Flow.pass_val (.int .i64 ((u : Int) - 1)) (Flow.met_none rfl) (fun a W hH => ?_) ?_
                              · have e0 := Flow.see_new 120 3 hH.sees (by kernel_rfl) (by kernel_rfl) rfl rfl
                                go_simp; first | done | rfl | (rw [IntWalk.i64_in _ (by omega)]; first | done | rfl | omega | (simp; done))
                              refine Flow.pass_old (X := .slice (some ⟨g, 0, none⟩) n cap) 0 (Flow.met_none rfl) (.inl rfl) (by kernel_rfl) (by kernel_rfl) rfl ?_
                              refine Flow.pass_old (X := .int .i64 ((u : Int))) 10 (Flow.met_none rfl) (.inl rfl) (by kernel_rfl) (by kernel_rfl) rfl ?_
                              refine Flow.pass_val (.int .i64 ((u : Int) - 1)) (Flow.met_none rfl) (fun a W hH => ?_) ?_
                              · have e0 := Flow.see_new 123 6 hH.sees (by kernel_rfl) (by kernel_rfl) rfl rfl
                                go_simp; first | done | rfl | (rw [IntWalk.i64_in _ (by omega)]; first | done | rfl | omega | (simp; done))
                              refine Flow.pass_val (.pointer (some ⟨g, (u - 1), none⟩)) (Flow.met_none rfl) (fun a W hH => ?_) ?_
                              · have e0 := Flow.see_new 122 5 hH.sees (by kernel_rfl) (by kernel_rfl) rfl rfl
                                have e1 := Flow.see_new 124 7 hH.sees (by kernel_rfl) (by kernel_rfl) rfl rfl
                                exact s_ixS (s := 1) ((u - 1)) _ rfl Tryz.underlying74 (by kernel_rfl) (by first | exact e0 | simpa [Act.eval] using e0 | (simp [Act.eval])) (by first | exact e1 | simpa [Act.eval] using e1 | (simp [Act.eval])) (by omega) (by omega) (by omega)
                              refine Flow.pass_val (.int .u64 ((d4[(u - 1)]! : Nat) : Int)) (Flow.met_none rfl) (fun a W hH => ?_) ?_
                              · have e0 := Flow.see_new 125 8 hH.sees (by kernel_rfl) (by kernel_rfl) rfl rfl
                                have fa0 : (fun W => NR W g d4 R) W := hH.fact _ (List.mem_of_getElem? (i := 0) rfl) rfl
                                have cc := nr_cell fa0 ((u - 1)) (by omega); go_simp; first | done | rfl
                              refine Flow.pass_old (X := .slice (some ⟨g, 0, none⟩) n cap) 0 (Flow.met_none rfl) (.inl rfl) (by kernel_rfl) (by kernel_rfl) rfl ?_
                              refine Flow.pass_old (X := .int .i64 ((u : Int))) 10 (Flow.met_none rfl) (.inl rfl) (by kernel_rfl) (by kernel_rfl) rfl ?_
                              refine Flow.pass_val (.pointer (some ⟨g, u, none⟩)) (Flow.met_none rfl) (fun a W hH => ?_) ?_
                              · have e0 := Flow.see_new 127 10 hH.sees (by kernel_rfl) (by kernel_rfl) rfl rfl
                                have e1 := Flow.see_new 128 11 hH.sees (by kernel_rfl) (by kernel_rfl) rfl rfl
                                exact s_ixS (s := 1) (u) _ rfl Tryz.underlying74 (by kernel_rfl) (by first | exact e0 | simpa [Act.eval] using e0 | (simp [Act.eval])) (by first | exact e1 | simpa [Act.eval] using e1 | (simp [Act.eval])) (by omega) (by omega) (by omega)
                              refine Flow.pass_val (.int .u64 ((d4[u]! : Nat) : Int)) (Flow.met_none rfl) (fun a W hH => ?_) ?_
                              · have e0 := Flow.see_new 129 12 hH.sees (by kernel_rfl) (by kernel_rfl) rfl rfl
                                have fa1 : (fun W => NR W g d4 R) W := hH.fact _ (List.mem_of_getElem? (i := 1) rfl) rfl
                                have cc := nr_cell fa1 (u) (by omega); go_simp; first | done | rfl
                              refine Flow.pass_val (.pointer (some ⟨g, u, none⟩)) (Flow.met_none rfl) (fun a W hH => ?_) ?_
                              · have e0 := Flow.see_new 117 0 hH.sees (by kernel_rfl) (by kernel_rfl) rfl rfl
                                have e1 := Flow.see_new 118 1 hH.sees (by kernel_rfl) (by kernel_rfl) rfl rfl
                                exact s_ixS (s := 1) (u) _ rfl Tryz.underlying74 (by kernel_rfl) (by first | exact e0 | simpa [Act.eval] using e0 | (simp [Act.eval])) (by first | exact e1 | simpa [Act.eval] using e1 | (simp [Act.eval])) (by omega) (by omega) (by omega)
                              refine Flow.pass_lin [17] (fun _ W => NR W g (d4.setIfInBounds (u) (d4[(u - 1)]!)) R) (Flow.kept_lin [17] (fun _ _ _ c h => h.chg c id) (Flow.lz_cons (Flow.no_follow (by kernel_rfl)) (Flow.lz_cons (fun _ => .inl rfl) Flow.lz_nil))) (Flow.met_none rfl) (fun a W hH => ?_) ?_
                              · have e0 := Flow.see_new 131 14 hH.sees (by kernel_rfl) (by kernel_rfl) rfl rfl
                                have e1 := Flow.see_new 126 9 hH.sees (by kernel_rfl) (by kernel_rfl) rfl rfl
                                have fa2 : (fun W => NR W g d4 R) W := hH.fact _ (List.mem_of_getElem? (i := 2) rfl) rfl
                                refine s_skip (s_store rfl (by kernel_rfl) fa2 e0 e1 (nr_size (by omega))) ?_
                                exact ⟨_, rfl, Chg.grown (s_grown _ _ _ _) (by rintro j h; cases h; rfl), nr_set fa2 _ (by omega) _⟩
                              refine Flow.pass_val (.pointer (some ⟨g, (u - 1), none⟩)) (Flow.met_none rfl) (fun a W hH => ?_) ?_
                              · have e0 := Flow.see_new 119 2 hH.sees (by kernel_rfl) (by kernel_rfl) rfl rfl
                                have e1 := Flow.see_new 121 4 hH.sees (by kernel_rfl) (by kernel_rfl) rfl rfl
                                exact s_ixS (s := 1) ((u - 1)) _ rfl Tryz.underlying74 (by kernel_rfl) (by first | exact e0 | simpa [Act.eval] using e0 | (simp [Act.eval])) (by first | exact e1 | simpa [Act.eval] using e1 | (simp [Act.eval])) (by omega) (by omega) (by omega)
                              refine Flow.pass_gen (fun _ W => NR W g ((d4.setIfInBounds (u) (d4[(u - 1)]!)).setIfInBounds ((u - 1)) (d4[u]!)) R) (Flow.kept_of (fun _ _ _ c h => h.chg c id) (Flow.kz_cons (Flow.no_follow (by kernel_rfl)) (Flow.kz_cons (Flow.no_follow (by kernel_rfl)) Flow.kz_nil))) (Flow.met_none rfl) (fun a W hH => ?_) ?_
                              · have e0 := Flow.see_new 132 16 hH.sees (by kernel_rfl) (by kernel_rfl) rfl rfl
                                have e1 := Flow.see_new 130 13 hH.sees (by kernel_rfl) (by kernel_rfl) rfl rfl
                                obtain ⟨_, hP⟩ := Flow.past_lin 15 hH.past (by kernel_rfl) (by kernel_rfl) rfl (by kernel_rfl)
                                refine s_skip (s_store rfl (by kernel_rfl) hP e0 e1 (nr_size (by rw [Array.size_setIfInBounds]; omega))) ?_
                                exact ⟨_, rfl, Chg.grown (s_grown _ _ _ _) (by rintro j h; cases h; rfl), nr_set hP _ (by rw [Array.size_setIfInBounds]; omega) _⟩
                              refine Flow.pass_end [none, none, none, none, none, none, none, none, none, none, none, none, none, none, none, none, none, none, none, none, none, none, none, none, none, none, none, none, none, none, none, none, none, none, none, none, none, none, none, none, none, none, none, none, none, none, none, none, none, none, none, none, none, none, none, none, none, none, none, none, none, none, none, none, none, none, none, none, none, none, none, none, none, none, none, none, none, none, none, none, none, none, none, none, none, none, none, none, none, none, none, none, none, none, none, none, none, none, none, none, none, none, none, none, none, none, none, none, none, none, none, none, none, none, none, none, none, some 117, some 118, some 119, some 120, some 121, some 122, some 123, some 124, some 125, some 126, some 127, some 128, some 129, some 130, some 131, some 132] (by kernel_rfl) ?_
                              intro f gg w9 hB hfa hT hfg
                              have F3 : (fun W => Chg (OnlyG g) Wt W) w9 := hfa _ (List.mem_of_getElem? (i := 3) rfl) (Nat.le_refl _)
                              have hN_Wv : NR w9 g (Sort.swp d4 (u) (u - 1)) R := hT 17 _ (by kernel_rfl) rfl
                              have hC_Wv := hC_Wt.trans F3
                              simp only [Reg.sel]
                              obtain ⟨Wv, hWWv⟩ : ∃ W, W = w9 := ⟨_, rfl⟩
                              subst hWWv
                              clear hT hfg hfa hB F3
                              go_wp2
                              go_roundw
                              case rel => first | exact ⟨u + 1, _, by omega, by omega, by go_num, Lib.hid (by rw [← hst.out]; exact hU.out), by rw [swp_size]; exact hs_d4, hN_Wv, hC_Wv⟩ | ((repeat apply Exists.intro); refine ⟨?_, rfl⟩; exact ⟨u + 1, _, by omega, by omega, by go_num, Lib.hid (by rw [← hst.out]; exact hU.out), by rw [swp_size]; exact hs_d4, hN_Wv, hC_Wv⟩)
                              case measure => first | (simp [intOf]; done) | (simp [intOf]; omega) | (simp only [intOf]; omega)
                          · have huui : ¬ (u : Int) < (hi : Int) := by omega
                            have hFB : Hid ((if hi - y ≥ 2 then Sort.shiftUp ltN hi (y + 1) d3 else d3) = d4) := Lib.hid (by rw [hFB0.out, ← hU.out]; exact shiftUp_stop (by simp [huu]))
                            have hnext : Hid (Sort.partialIns ltN lo hi s y d4 = RES) := Lib.hid (by rw [← hP.out, pins_step hSy.out hyb hL50, hdS.out, hFA.out, hFB.out])
                            go_wp2
                            go_roundw
                            case rel => first | exact ⟨y, J + 1, s, d4, rfl, by go_num, by omega, by omega, by omega, hnext, hs_d4, hN_wr, hC_wr⟩ | ((repeat apply Exists.intro); refine ⟨?_, rfl⟩; exact ⟨y, J + 1, s, d4, rfl, by go_num, by omega, by omega, by omega, hnext, hs_d4, hN_wr, hC_wr⟩)
                            case measure => first | (simp [intOf]; done) | (simp [intOf]; omega) | (simp only [intOf]; omega)
                      · have hu2i : ¬ (2 : Int) ≤ (hi : Int) - (y : Int) := by omega
                        have hFB : Hid ((if hi - y ≥ 2 then Sort.shiftUp ltN hi (y + 1) d3 else d3) = d3) := Lib.hid (by rw [if_neg hu2])
                        have hnext : Hid (Sort.partialIns ltN lo hi s y d3 = RES) := Lib.hid (by rw [← hP.out, pins_step hSy.out hyb hL50, hdS.out, hFA.out, hFB.out])
                        go_wp2
                        go_roundw
                        case rel => first | exact ⟨y, J + 1, s, d3, rfl, by go_num, by omega, by omega, by omega, hnext, hs_d3, hN_Wq, hC_Wq⟩ | ((repeat apply Exists.intro); refine ⟨?_, rfl⟩; exact ⟨y, J + 1, s, d3, rfl, by go_num, by omega, by omega, by omega, hnext, hs_d3, hN_Wq, hC_Wq⟩)
                        case measure => first | (simp [intOf]; done) | (simp [intOf]; omega) | (simp only [intOf]; omega)
                    | true =>
                      have hst := Lib.hid (shiftDown_step hz0 hq)
                      clear hq
                      go_upto_region 17 with (fail)
                      refine Flow.wp_region_flow (g) [(15, fun b => b = g), (17, fun b => b = g)] [(9, fun W => NR W g d3 R), (13, fun W => NR W g d3 R), (15, fun W => NR W g d3 R), (18, fun W => Chg (OnlyG g) Wq W)] (by kernel_rfl) (by kernel_rfl) (Nat.le_of_lt hN_Wq.lt) (Flow.nz_cons (by rintro b rfl; exact Nat.le_refl _) (Flow.nz_cons (by rintro b rfl; exact Nat.le_refl _) Flow.nz_nil)) (Flow.facts_cons (hN_Wq.drew) (Flow.kept_blk id) (Flow.fz_cons (Flow.no_follow (by kernel_rfl)) (Flow.fz_cons (Flow.no_follow (by kernel_rfl)) Flow.fz_nil)) (Flow.facts_cons (hN_Wq.drew) (Flow.kept_blk id) (Flow.fz_cons (Flow.no_follow (by kernel_rfl)) (Flow.fz_cons (Flow.no_follow (by kernel_rfl)) Flow.fz_nil)) (Flow.facts_cons (hN_Wq.drew) (Flow.kept_blk id) (Flow.fz_cons (Flow.no_follow (by kernel_rfl)) (Flow.fz_cons (Flow.no_follow (by kernel_rfl)) Flow.fz_nil)) (Flow.facts_cons ((Chg.refl _ _).drew) (fun _ _ c h => onlyg_trans h c (by first | exact fun _ hj => hj | exact fun _ hj => hj.elim)) (Flow.fz_cons (fun _ => fun _ _ c h => onlyg_trans h c (by first | exact fun _ hj => hj | exact fun _ hj => hj.elim)) (Flow.fz_cons (fun _ => fun _ _ c h => onlyg_trans h c (by first | exact fun _ hj => hj | exact fun _ hj => hj.elim)) Flow.fz_nil)) Flow.facts_nil)))) ?_
                      refine Flow.pass_old (X := .slice (some ⟨g, 0, none⟩) n cap) 0 (Flow.met_none rfl) (.inl rfl) (by kernel_rfl) (by kernel_rfl) rfl ?_
                      refine Flow.pass_old (X := .int .i64 ((z : Int))) 9 (Flow.met_none rfl) (.inl rfl) (by kernel_rfl) (by kernel_rfl) rfl ?_
                      refine Flow.pass_old (X := .slice (some ⟨g, 0, none⟩) n cap) 0 (Flow.met_none rfl) (.inl rfl) (by kernel_rfl) (by kernel_rfl) rfl ?_
                      refine Flow.pass_old (X := .int .i64 ((z : Int))) 9 (Flow.met_none rfl) (.inl rfl) (by kernel_rfl) (by kernel_rfl) rfl ?_
                      refine Flow.pass_val (.int .i64 ((z : Int) - 1)) (Flow.met_none rfl) (fun a W hH => ?_) ?_
                      · have e0 := Flow.see_new 82 3 hH.sees (by kernel_rfl) (by kernel_rfl) rfl rfl
                        go_simp; first | done | rfl | (rw [IntWalk.i64_in _ (by omega)]; first | done | rfl | omega | (simp; done))
                      refine Flow.pass_old (X := .slice (some ⟨g, 0, none⟩) n cap) 0 (Flow.met_none rfl) (.inl rfl) (by kernel_rfl) (by kernel_rfl) rfl ?_
                      refine Flow.pass_old (X := .int .i64 ((z : Int))) 9 (Flow.met_none rfl) (.inl rfl) (by kernel_rfl) (by kernel_rfl) rfl ?_
                      refine Flow.pass_val (.int .i64 ((z : Int) - 1)) (Flow.met_none rfl) (fun a W hH => ?_) ?_
                      · have e0 := Flow.see_new 85 6 hH.sees (by kernel_rfl) (by kernel_rfl) rfl rfl
                        go_simp; first | done | rfl | (rw [IntWalk.i64_in _ (by omega)]; first | done | rfl | omega | (simp; done))
                      refine Flow.pass_val (.pointer (some ⟨g, (z - 1), none⟩)) (Flow.met_none rfl) (fun a W hH => ?_) ?_
                      · have e0 := Flow.see_new 84 5 hH.sees (by kernel_rfl) (by kernel_rfl) rfl rfl
                        have e1 := Flow.see_new 86 7 hH.sees (by kernel_rfl) (by kernel_rfl) rfl rfl
                        exact s_ixS (s := 1) ((z - 1)) _ rfl Tryz.underlying74 (by kernel_rfl) (by first | exact e0 | simpa [Act.eval] using e0 | (simp [Act.eval])) (by first | exact e1 | simpa [Act.eval] using e1 | (simp [Act.eval])) (by omega) (by omega) (by omega)
                      refine Flow.pass_val (.int .u64 ((d3[(z - 1)]! : Nat) : Int)) (Flow.met_none rfl) (fun a W hH => ?_) ?_
                      · have e0 := Flow.see_new 87 8 hH.sees (by kernel_rfl) (by kernel_rfl) rfl rfl
                        have fa0 : (fun W => NR W g d3 R) W := hH.fact _ (List.mem_of_getElem? (i := 0) rfl) rfl
                        have cc := nr_cell fa0 ((z - 1)) (by omega); go_simp; first | done | rfl
                      refine Flow.pass_old (X := .slice (some ⟨g, 0, none⟩) n cap) 0 (Flow.met_none rfl) (.inl rfl) (by kernel_rfl) (by kernel_rfl) rfl ?_
                      refine Flow.pass_old (X := .int .i64 ((z : Int))) 9 (Flow.met_none rfl) (.inl rfl) (by kernel_rfl) (by kernel_rfl) rfl ?_
                      refine Flow.pass_val (.pointer (some ⟨g, z, none⟩)) (Flow.met_none rfl) (fun a W hH => ?_) ?_
                      · have e0 := Flow.see_new 89 10 hH.sees (by kernel_rfl) (by kernel_rfl) rfl rfl
                        have e1 := Flow.see_new 90 11 hH.sees (by kernel_rfl) (by kernel_rfl) rfl rfl
                        exact s_ixS (s := 1) (z) _ rfl Tryz.underlying74 (by kernel_rfl) (by first | exact e0 | simpa [Act.eval] using e0 | (simp [Act.eval])) (by first | exact e1 | simpa [Act.eval] using e1 | (simp [Act.eval])) (by omega) (by omega) (by omega)
                      refine Flow.pass_val (.int .u64 ((d3[z]! : Nat) : Int)) (Flow.met_none rfl) (fun a W hH => ?_) ?_
                      · have e0 := Flow.see_new 91 12 hH.sees (by kernel_rfl) (by kernel_rfl) rfl rfl
                        have fa1 : (fun W => NR W g d3 R) W := hH.fact _ (List.mem_of_getElem? (i := 1) rfl) rfl
                        have cc := nr_cell fa1 (z) (by omega); go_simp; first | done | rfl
                      refine Flow.pass_val (.pointer (some ⟨g, z, none⟩)) (Flow.met_none rfl) (fun a W hH => ?_) ?_
                      · have e0 := Flow.see_new 79 0 hH.sees (by kernel_rfl) (by kernel_rfl) rfl rfl
                        have e1 := Flow.see_new 80 1 hH.sees (by kernel_rfl) (by kernel_rfl) rfl rfl
                        exact s_ixS (s := 1) (z) _ rfl Tryz.underlying74 (by kernel_rfl) (by first | exact e0 | simpa [Act.eval] using e0 | (simp [Act.eval])) (by first | exact e1 | simpa [Act.eval] using e1 | (simp [Act.eval])) (by omega) (by omega) (by omega)
                      refine Flow.pass_lin [17] (fun _ W => NR W g (d3.setIfInBounds (z) (d3[(z - 1)]!)) R) (Flow.kept_lin [17] (fun _ _ _ c h => h.chg c id) (Flow.lz_cons (Flow.no_follow (by kernel_rfl)) (Flow.lz_cons (fun _ => .inl rfl) Flow.lz_nil))) (Flow.met_none rfl) (fun a W hH => ?_) ?_
                      · have e0 := Flow.see_new 93 14 hH.sees (by kernel_rfl) (by kernel_rfl) rfl rfl
                        have e1 := Flow.see_new 88 9 hH.sees (by kernel_rfl) (by kernel_rfl) rfl rfl
                        have fa2 : (fun W => NR W g d3 R) W := hH.fact _ (List.mem_of_getElem? (i := 2) rfl) rfl
                        refine s_skip (s_store rfl (by kernel_rfl) fa2 e0 e1 (nr_size (by omega))) ?_
                        exact ⟨_, rfl, Chg.grown (s_grown _ _ _ _) (by rintro j h; cases h; rfl), nr_set fa2 _ (by omega) _⟩
                      refine Flow.pass_val (.pointer (some ⟨g, (z - 1), none⟩)) (Flow.met_none rfl) (fun a W hH => ?_) ?_
                      · have e0 := Flow.see_new 81 2 hH.sees (by kernel_rfl) (by kernel_rfl) rfl rfl
                        have e1 := Flow.see_new 83 4 hH.sees (by kernel_rfl) (by kernel_rfl) rfl rfl
                        exact s_ixS (s := 1) ((z - 1)) _ rfl Tryz.underlying74 (by kernel_rfl) (by first | exact e0 | simpa [Act.eval] using e0 | (simp [Act.eval])) (by first | exact e1 | simpa [Act.eval] using e1 | (simp [Act.eval])) (by omega) (by omega) (by omega)
                      refine Flow.pass_gen (fun _ W => NR W g ((d3.setIfInBounds (z) (d3[(z - 1)]!)).setIfInBounds ((z - 1)) (d3[z]!)) R) (Flow.kept_of (fun _ _ _ c h => h.chg c id) (Flow.kz_cons (Flow.no_follow (by kernel_rfl)) (Flow.kz_cons (Flow.no_follow (by kernel_rfl)) Flow.kz_nil))) (Flow.met_none rfl) (fun a W hH => ?_) ?_
                      · have e0 := Flow.see_new 94 16 hH.sees (by kernel_rfl) (by kernel_rfl) rfl rfl
                        have e1 := Flow.see_new 92 13 hH.sees (by kernel_rfl) (by kernel_rfl) rfl rfl
                        obtain ⟨_, hP⟩ := Flow.past_lin 15 hH.past (by kernel_rfl) (by kernel_rfl) rfl (by kernel_rfl)
                        refine s_skip (s_store rfl (by kernel_rfl) hP e0 e1 (nr_size (by rw [Array.size_setIfInBounds]; omega))) ?_
                        exact ⟨_, rfl, Chg.grown (s_grown _ _ _ _) (by rintro j h; cases h; rfl), nr_set hP _ (by rw [Array.size_setIfInBounds]; omega) _⟩
                      refine Flow.pass_end [none, none, none, none, none, none, none, none, none, none, none, none, none, none, none, none, none, none, none, none, none, none, none, none, none, none, none, none, none, none, none, none, none, none, none, none, none, none, none, none, none, none, none, none, none, none, none, none, none, none, none, none, none, none, none, none, none, none, none, none, none, none, none, none, none, none, none, none, none, none, none, none, none, none, none, none, none, none, none, some 79, some 80, some 81, some 82, some 83, some 84, some 85, some 86, some 87, some 88, some 89, some 90, some 91, some 92, some 93, some 94, none, none, none, none, none, none, none, none, none, none, none, none, none, none, none, none, none, none, none, none, none, none, none, none, none, none, none, none, none, none, none, none, none, none, none, none, none, none] (by kernel_rfl) ?_
                      intro f gg w9 hB hfa hT hfg
                      have F3 : (fun W => Chg (OnlyG g) Wq W) w9 := hfa _ (List.mem_of_getElem? (i := 3) rfl) (Nat.le_refl _)
                      have hN_Wr : NR w9 g (Sort.swp d3 (z) (z - 1)) R := hT 17 _ (by kernel_rfl) rfl
                      have hC_Wr := hC_Wq.trans F3
                      simp only [Reg.sel]
                      obtain ⟨Wr, hWWr⟩ : ∃ W, W = w9 := ⟨_, rfl⟩
                      subst hWWr
                      clear hT hfg hfa hB F3
                      go_wp2
                      go_roundw
                      case rel => first | exact ⟨z - 1, _, by omega, by go_num, Lib.hid (by rw [← hst.out]; exact hZ.out), by rw [swp_size]; exact hs_d3, hN_Wr, hC_Wr⟩ | ((repeat apply Exists.intro); refine ⟨?_, rfl⟩; exact ⟨z - 1, _, by omega, by go_num, Lib.hid (by rw [← hst.out]; exact hZ.out), by rw [swp_size]; exact hs_d3, hN_Wr, hC_Wr⟩)
                      case measure => first | (simp [intOf]; done) | (simp [intOf]; omega) | (simp only [intOf]; omega)
                  · have hz0i : ¬ (1 : Int) ≤ (z : Int) := by omega
                    obtain rfl : z = 0 := by omega
                    have hFA : Hid ((if y - lo ≥ 2 then Sort.shiftDown ltN (y - 1) dS else dS) = d3) := Lib.hid (by rw [hFA0.out, ← hZ.out]; rfl)
                    by_cases hu2 : 2 ≤ hi - y
                    · obtain ⟨SU, hSU⟩ : ∃ X, Sort.shiftUp ltN hi (y + 1) d3 = X := ⟨_, rfl⟩
                      have hFB0 : Hid ((if hi - y ≥ 2 then Sort.shiftUp ltN hi (y + 1) d3 else d3) = SU) := Lib.hid (by rw [if_pos hu2, hSU])
                      have hSU := Lib.hid hSU
                      have hu2i : (2 : Int) ≤ (hi : Int) - (y : Int) := by omega
                      go_wp2
                      go_loopw [10] (fun k wr => ∃ (u : Nat) (d4 : Array Nat), y + 1 ≤ u ∧ u ≤ hi ∧ k = .int .i64 (u : Int) ∧ Hid (Sort.shiftUp ltN hi u d4 = SU) ∧ d4.size = n ∧ NR wr g d4 R ∧ Chg (OnlyG g) w wr) (fun k _ => hi + 1 - (intOf k).toNat)
                      case atStart => exact ⟨y + 1, d3, Nat.le_refl _, by omega, by first | rfl | go_num, hSU, hs_d3, hN_wr, hC_wr⟩
                      case round =>
                        obtain ⟨u, d4, hu1, huh, rfl, hU, hs_d4, hN_wr, hC_wr⟩ := hrel
                        by_cases huu : u < hi
                        · have huui : (u : Int) < (hi : Int) := by omega
                          go_wp2_with fail
                          refine s_cut [none, none, none, none, none, none, none, none, none, none, none, none, none, none, none, none, none, none, none, none, none, none, none, none, none, none, none, none, none, none, none, none, none, none, none, none, none, none, none, none, none, none, none, none, none, none, none, none, none, none, none, none, none, none, none, none, none, none, none, none, none, none, none, none, none, none, none, none, none, none, none, none, none, none, none, none, none, none, none, none, none, none, none, none, none, none, none, none, none, none, none, none, none, none, none, none, none, none, none, none, none, none, none, none, none, none, some 106, some 107, some 108, some 109, some 110, some 111, some 112, some 113, some 114, some 115, some 116, none, none, none, none, none, none, none, none, none, none, none, none, none, none, none, none] (fun f W => f 116 = .bool (!ltN d4[u]! d4[u - 1]!) ∧ Below wr.heap.size wr W) (fun Q1 hQ1 => ?_) ?_
                          · skip
                            refine Flow.wp_region_flow (wr.heap.size) [] [] (by kernel_rfl) (by kernel_rfl) (Nat.le_refl _) (fun _ h => by cases h) Flow.facts_nil ?_
                            refine Flow.pass_old (X := .slice (some ⟨g, 0, none⟩) n cap) 0 (Flow.met_none rfl) (.inl rfl) (by kernel_rfl) (by kernel_rfl) rfl ?_
                            refine Flow.pass_old (X := .int .i64 ((u : Int))) 10 (Flow.met_none rfl) (.inl rfl) (by kernel_rfl) (by kernel_rfl) rfl ?_
                            refine Flow.pass_val (.pointer (some ⟨g, u, none⟩)) (Flow.met_none rfl) (fun a W hH => ?_) ?_
                            · have e0 := Flow.see_new 106 0 hH.sees (by kernel_rfl) (by kernel_rfl) rfl rfl
                              have e1 := Flow.see_new 107 1 hH.sees (by kernel_rfl) (by kernel_rfl) rfl rfl
                              exact s_ixS (s := 1) (u) _ rfl Tryz.underlying74 (by kernel_rfl) (by first | exact e0 | simpa [Act.eval] using e0 | (simp [Act.eval])) (by first | exact e1 | simpa [Act.eval] using e1 | (simp [Act.eval])) (by omega) (by omega) (by omega)
                            refine Flow.pass_val (.int .u64 ((d4[u]! : Nat) : Int)) (Flow.met_none rfl) (fun a W hH => ?_) ?_
                            · have e0 := Flow.see_new 108 2 hH.sees (by kernel_rfl) (by kernel_rfl) rfl rfl
                              have cc := nr_cell (hN_wr.below ((Below.refl wr.heap.size wr).drew.trans hH.below) hN_wr.lt) (u) (by omega); go_simp; first | done | rfl
                            refine Flow.pass_old (X := .slice (some ⟨g, 0, none⟩) n cap) 0 (Flow.met_none rfl) (.inl rfl) (by kernel_rfl) (by kernel_rfl) rfl ?_
                            refine Flow.pass_old (X := .int .i64 ((u : Int))) 10 (Flow.met_none rfl) (.inl rfl) (by kernel_rfl) (by kernel_rfl) rfl ?_
                            refine Flow.pass_val (.int .i64 ((u : Int) - 1)) (Flow.met_none rfl) (fun a W hH => ?_) ?_
                            · have e0 := Flow.see_new 111 5 hH.sees (by kernel_rfl) (by kernel_rfl) rfl rfl
                              go_simp; first | done | rfl | (rw [IntWalk.i64_in _ (by omega)]; first | done | rfl | omega | (simp; done))
                            refine Flow.pass_val (.pointer (some ⟨g, (u - 1), none⟩)) (Flow.met_none rfl) (fun a W hH => ?_) ?_
                            · have e0 := Flow.see_new 110 4 hH.sees (by kernel_rfl) (by kernel_rfl) rfl rfl
                              have e1 := Flow.see_new 112 6 hH.sees (by kernel_rfl) (by kernel_rfl) rfl rfl
                              exact s_ixS (s := 1) ((u - 1)) _ rfl Tryz.underlying74 (by kernel_rfl) (by first | exact e0 | simpa [Act.eval] using e0 | (simp [Act.eval])) (by first | exact e1 | simpa [Act.eval] using e1 | (simp [Act.eval])) (by omega) (by omega) (by omega)
                            refine Flow.pass_val (.int .u64 ((d4[(u - 1)]! : Nat) : Int)) (Flow.met_none rfl) (fun a W hH => ?_) ?_
                            · have e0 := Flow.see_new 113 7 hH.sees (by kernel_rfl) (by kernel_rfl) rfl rfl
                              have cc := nr_cell (hN_wr.below ((Below.refl wr.heap.size wr).drew.trans hH.below) hN_wr.lt) ((u - 1)) (by omega); go_simp; first | done | rfl
                            refine Flow.pass_step (Reg.eqs (.bool (ltN (d4[u]!) (d4[(u - 1)]!)))) (fun _ _ => Flow.kept_eqs _ _) (Flow.met_none rfl) (fun a W hH => ?_) ?_
                            · have e0 := Flow.see_new 109 3 hH.sees (by kernel_rfl) (by kernel_rfl) rfl rfl
                              have e1 := Flow.see_new 114 8 hH.sees (by kernel_rfl) (by kernel_rfl) rfl rfl
                              refine Reg.wp_call rfl Tryz.func162 rfl (by kernel_rfl) (by simp [Act.eval, e0, e1]) (lessN (d4[u]!) (d4[(u - 1)]!) W) ?_
                              rintro e w' ⟨rfl, rfl⟩
                              exact ⟨_, rfl, _, rfl, Ext.refl _, rfl⟩
                            refine Flow.pass_val (.bool (!(ltN (d4[u]!) (d4[(u - 1)]!)))) (Flow.met_none rfl) (fun a W hH => ?_) ?_
                            · have e0 := Flow.see_new 115 9 hH.sees (by kernel_rfl) (by kernel_rfl) rfl rfl
                              go_simp; first | done | rfl
                            refine Flow.pass_end [none, none, none, none, none, none, none, none, none, none, none, none, none, none, none, none, none, none, none, none, none, none, none, none, none, none, none, none, none, none, none, none, none, none, none, none, none, none, none, none, none, none, none, none, none, none, none, none, none, none, none, none, none, none, none, none, none, none, none, none, none, none, none, none, none, none, none, none, none, none, none, none, none, none, none, none, none, none, none, none, none, none, none, none, none, none, none, none, none, none, none, none, none, none, none, none, none, none, none, none, none, none, none, none, none, none, some 106, some 107, some 108, some 109, some 110, some 111, some 112, some 113, some 114, some 115, some 116, none, none, none, none, none, none, none, none, none, none, none, none, none, none, none, none] (by kernel_rfl) ?_
                            intro f gg w9 hB hfa hT hfg
                            have h116 : f 116 = _ := (hfg 116 10 (by kernel_rfl)).trans (hT 10 _ (by kernel_rfl) rfl)
                            exact hQ1 f w9 ⟨h116, (Below.refl wr.heap.size wr).drew.trans hB⟩
                          intro f Wt ⟨h116, hBWt⟩
                          simp only [Reg.sel, h116]
                          have hN_Wt := Blk.below hN_wr hBWt (Blk.lt hN_wr)
                          have hC_Wt := hC_wr.trans (Chg.of_ext hBWt)
                          clear h116 hBWt
                          cases hq : ltN d4[u]! d4[u - 1]! with
                          | false =>
                            have hFB : Hid ((if hi - y ≥ 2 then Sort.shiftUp ltN hi (y + 1) d3 else d3) = d4) := Lib.hid (by rw [hFB0.out, ← hU.out]; exact shiftUp_stop (by rw [hq]; simp))
                            clear hq
                            have hnext : Hid (Sort.partialIns ltN lo hi s y d4 = RES) := Lib.hid (by rw [← hP.out, pins_step hSy.out hyb hL50, hdS.out, hFA.out, hFB.out])
                            go_wp2
                            go_roundw
                            case rel => first | exact ⟨y, J + 1, s, d4, rfl, by go_num, by omega, by omega, by omega, hnext, hs_d4, hN_Wt, hC_Wt⟩ | ((repeat apply Exists.intro); refine ⟨?_, rfl⟩; exact ⟨y, J + 1, s, d4, rfl, by go_num, by omega, by omega, by omega, hnext, hs_d4, hN_Wt, hC_Wt⟩)
                            case measure => first | (simp [intOf]; done) | (simp [intOf]; omega) | (simp only [intOf]; omega)
                          | true =>
                            have hst := Lib.hid (shiftUp_step huu hq)
                            clear hq
                            go_upto_region 23 with (fail)
                            refine Flow.wp_region_flow (g) [(15, fun b => b = g), (17, fun b => b = g)] [(9, fun W => NR W g d4 R), (13, fun W => NR W g d4 R), (15, fun W => NR W g d4 R), (18, fun W => Chg (OnlyG g) Wt W)] (by kernel_rfl) (by kernel_rfl) (Nat.le_of_lt hN_Wt.lt) (Flow.nz_cons (by rintro b rfl; exact Nat.le_refl _) (Flow.nz_cons (by rintro b rfl; exact Nat.le_refl _) Flow.nz_nil)) (Flow.facts_cons (hN_Wt.drew) (Flow.kept_blk id) (Flow.fz_cons (Flow.no_follow (by kernel_rfl)) (Flow.fz_cons (Flow.no_follow (by kernel_rfl)) Flow.fz_nil)) (Flow.facts_cons (hN_Wt.drew) (Flow.kept_blk id) (Flow.fz_cons (Flow.no_follow (by kernel_rfl)) (Flow.fz_cons (Flow.no_follow (by kernel_rfl)) Flow.fz_nil)) (Flow.facts_cons (hN_Wt.drew) (Flow.kept_blk id) (Flow.fz_cons (Flow.no_follow (by kernel_rfl)) (Flow.fz_cons (Flow.no_follow (by kernel_rfl)) Flow.fz_nil)) (Flow.facts_cons ((Chg.refl _ _).drew) (fun _ _ c h => onlyg_trans h c (by first | exact fun _ hj => hj | exact fun _ hj => hj.elim)) (Flow.fz_cons (fun _ => fun _ _ c h => onlyg_trans h c (by first | exact fun _ hj => hj | exact fun _ hj => hj.elim)) (Flow.fz_cons (fun _ => fun _ _ c h => onlyg_trans h c (by first | exact fun _ hj => hj | exact fun _ hj => hj.elim)) Flow.fz_nil)) Flow.facts_nil)))) ?_
                            refine Flow.pass_old (X := .slice (some ⟨g, 0, none⟩) n cap) 0 (Flow.met_none rfl) (.inl rfl) (by kernel_rfl) (by kernel_rfl) rfl ?_
                            refine Flow.pass_old (X := .int .i64 ((u : Int))) 10 (Flow.met_none rfl) (.inl rfl) (by kernel_rfl) (by kernel_rfl) rfl ?_
                            refine Flow.pass_old (X := .slice (some ⟨g, 0, none⟩) n cap) 0 (Flow.met_none rfl) (.inl rfl) (by kernel_rfl) (by kernel_rfl) rfl ?_
                            refine Flow.pass_old (X := .int .i64 ((u : Int))) 10 (Flow.met_none rfl) (.inl rfl) (by kernel_rfl) (by kernel_rfl) rfl ?_
                            refine Flow.pass_val (.int .i64 ((u : Int) - 1)) (Flow.met_none rfl) (fun a W hH => ?_) ?_
                            · have e0 := Flow.see_new 120 3 hH.sees (by kernel_rfl) (by kernel_rfl) rfl rfl
                              go_simp; first | done | rfl | (rw [IntWalk.i64_in _ (by omega)]; first | done | rfl | omega | (simp; done))
                            refine Flow.pass_old (X := .slice (some ⟨g, 0, none⟩) n cap) 0 (Flow.met_none rfl) (.inl rfl) (by kernel_rfl) (by kernel_rfl) rfl ?_
                            refine Flow.pass_old (X := .int .i64 ((u : Int))) 10 (Flow.met_none rfl) (.inl rfl) (by kernel_rfl) (by kernel_rfl) rfl ?_
                            refine Flow.pass_val (.int .i64 ((u : Int) - 1)) (Flow.met_none rfl) (fun a W hH => ?_) ?_
                            · have e0 := Flow.see_new 123 6 hH.sees (by kernel_rfl) (by kernel_rfl) rfl rfl
                              go_simp; first | done | rfl | (rw [IntWalk.i64_in _ (by omega)]; first | done | rfl | omega | (simp; done))
                            refine Flow.pass_val (.pointer (some ⟨g, (u - 1), none⟩)) (Flow.met_none rfl) (fun a W hH => ?_) ?_
                            · have e0 := Flow.see_new 122 5 hH.sees (by kernel_rfl) (by kernel_rfl) rfl rfl
                              have e1 := Flow.see_new 124 7 hH.sees (by kernel_rfl) (by kernel_rfl) rfl rfl
                              exact s_ixS (s := 1) ((u - 1)) _ rfl Tryz.underlying74 (by kernel_rfl) (by first | exact e0 | simpa [Act.eval] using e0 | (simp [Act.eval])) (by first | exact e1 | simpa [Act.eval] using e1 | (simp [Act.eval])) (by omega) (by omega) (by omega)
                            refine Flow.pass_val (.int .u64 ((d4[(u - 1)]! : Nat) : Int)) (Flow.met_none rfl) (fun a W hH => ?_) ?_
                            · have e0 := Flow.see_new 125 8 hH.sees (by kernel_rfl) (by kernel_rfl) rfl rfl
                              have fa0 : (fun W => NR W g d4 R) W := hH.fact _ (List.mem_of_getElem? (i := 0) rfl) rfl
                              have cc := nr_cell fa0 ((u - 1)) (by omega); go_simp; first | done | rfl
                            refine Flow.pass_old (X := .slice (some ⟨g, 0, none⟩) n cap) 0 (Flow.met_none rfl) (.inl rfl) (by kernel_rfl) (by kernel_rfl) rfl ?_
                            refine Flow.pass_old (X := .int .i64 ((u : Int))) 10 (Flow.met_none rfl) (.inl rfl) (by kernel_rfl) (by kernel_rfl) rfl ?_
                            refine Flow.pass_val (.pointer (some ⟨g, u, none⟩)) (Flow.met_none rfl) (fun a W hH => ?_) ?_
                            · have e0 := Flow.see_new 127 10 hH.sees (by kernel_rfl) (by kernel_rfl) rfl rfl
                              have e1 := Flow.see_new 128 11 hH.sees (by kernel_rfl) (by kernel_rfl) rfl rfl
                              exact s_ixS (s := 1) (u) _ rfl Tryz.underlying74 (by kernel_rfl) (by first | exact e0 | simpa [Act.eval] using e0 | (simp [Act.eval])) (by first | exact e1 | simpa [Act.eval] using e1 | (simp [Act.eval])) (by omega) (by omega) (by omega)
                            refine Flow.pass_val (.int .u64 ((d4[u]! : Nat) : Int)) (Flow.met_none rfl) (fun a W hH => ?_) ?_
                            · have e0 := Flow.see_new 129 12 hH.sees (by kernel_rfl) (by kernel_rfl) rfl rfl
                              have fa1 : (fun W => NR W g d4 R) W := hH.fact _ (List.mem_of_getElem? (i := 1) rfl) rfl
                              have cc := nr_cell fa1 (u) (by omega); go_simp; first | done | rfl
                            refine Flow.pass_val (.pointer (some ⟨g, u, none⟩)) (Flow.met_none rfl) (fun a W hH => ?_) ?_
                            · have e0 := Flow.see_new 117 0 hH.sees (by kernel_rfl) (by kernel_rfl) rfl rfl
                              have e1 := Flow.see_new 118 1 hH.sees (by kernel_rfl) (by kernel_rfl) rfl rfl
                              exact s_ixS (s := 1) (u) _ rfl Tryz.underlying74 (by kernel_rfl) (by first | exact e0 | simpa [Act.eval] using e0 | (simp [Act.eval])) (by first | exact e1 | simpa [Act.eval] using e1 | (simp [Act.eval])) (by omega) (by omega) (by omega)
                            refine Flow.pass_lin [17] (fun _ W => NR W g (d4.setIfInBounds (u) (d4[(u - 1)]!)) R) (Flow.kept_lin [17] (fun _ _ _ c h => h.chg c id) (Flow.lz_cons (Flow.no_follow (by kernel_rfl)) (Flow.lz_cons (fun _ => .inl rfl) Flow.lz_nil))) (Flow.met_none rfl) (fun a W hH => ?_) ?_
                            · have e0 := Flow.see_new 131 14 hH.sees (by kernel_rfl) (by kernel_rfl) rfl rfl
                              have e1 := Flow.see_new 126 9 hH.sees (by kernel_rfl) (by kernel_rfl) rfl rfl
                              have fa2 : (fun W => NR W g d4 R) W := hH.fact _ (List.mem_of_getElem? (i := 2) rfl) rfl
                              refine s_skip (s_store rfl (by kernel_rfl) fa2 e0 e1 (nr_size (by omega))) ?_
                              exact ⟨_, rfl, Chg.grown (s_grown _ _ _ _) (by rintro j h; cases h; rfl), nr_set fa2 _ (by omega) _⟩
                            refine Flow.pass_val (.pointer (some ⟨g, (u - 1), none⟩)) (Flow.met_none rfl) (fun a W hH => ?_) ?_
                            · have e0 := Flow.see_new 119 2 hH.sees (by kernel_rfl) (by kernel_rfl) rfl rfl
                              have e1 := Flow.see_new 121 4 hH.sees (by kernel_rfl) (by kernel_rfl) rfl rfl
                              exact s_ixS (s := 1) ((u - 1)) _ rfl Tryz.underlying74 (by kernel_rfl) (by first | exact e0 | simpa [Act.eval] using e0 | (simp [Act.eval])) (by first | exact e1 | simpa [Act.eval] using e1 | (simp [Act.eval])) (by omega) (by omega) (by omega)
                            refine Flow.pass_gen (fun _ W => NR W g ((d4.setIfInBounds (u) (d4[(u - 1)]!)).setIfInBounds ((u - 1)) (d4[u]!)) R) (Flow.kept_of (fun _ _ _ c h => h.chg c id) (Flow.kz_cons (Flow.no_follow (by kernel_rfl)) (Flow.kz_cons (Flow.no_follow (by kernel_rfl)) Flow.kz_nil))) (Flow.met_none rfl) (fun a W hH => ?_) ?_
                            · have e0 := Flow.see_new 132 16 hH.sees (by kernel_rfl) (by kernel_rfl) rfl rfl
                              have e1 := Flow.see_new 130 13 hH.sees (by kernel_rfl) (by kernel_rfl) rfl rfl
                              obtain ⟨_, hP⟩ := Flow.past_lin 15 hH.past (by kernel_rfl) (by kernel_rfl) rfl (by kernel_rfl)
                              refine s_skip (s_store rfl (by kernel_rfl) hP e0 e1 (nr_size (by rw [Array.size_setIfInBounds]; omega))) ?_
                              exact ⟨_, rfl, Chg.grown (s_grown _ _ _ _) (by rintro j h; cases h; rfl), nr_set hP _ (by rw [Array.size_setIfInBounds]; omega) _⟩
                            refine Flow.pass_end [none, none, none, none, none, none, none, none, none, none, none, none, none, none, none, none, none, none, none, none, none, none, none, none, none, none, none, none, none, none, none, none, none, none, none, none, none, none, none, none, none, none, none, none, none, none, none, none, none, none, none, none, none, none, none, none, none, none, none, none, none, none, none, none, none, none, none, none, none, none, none, none, none, none, none, none, none, none, none, none, none, none, none, none, none, none, none, none, none, none, none, none, none, none, none, none, none, none, none, none, none, none, none, none, none, none, none, none, none, none, none, none, none, none, none, none, none, some 117, some 118, some 119, some 120, some 121, some 122, some 123, some 124, some 125, some 126, some 127, some 128, some 129, some 130, some 131, some 132] (by kernel_rfl) ?_
                            intro f gg w9 hB hfa hT hfg
                            have F3 : (fun W => Chg (OnlyG g) Wt W) w9 := hfa _ (List.mem_of_getElem? (i := 3) rfl) (Nat.le_refl _)
                            have hN_Wv : NR w9 g (Sort.swp d4 (u) (u - 1)) R := hT 17 _ (by kernel_rfl) rfl
                            have hC_Wv := hC_Wt.trans F3
                            simp only [Reg.sel]
                            obtain ⟨Wv, hWWv⟩ : ∃ W, W = w9 := ⟨_, rfl⟩
                            subst hWWv
                            clear hT hfg hfa hB F3
                            go_wp2
                            go_roundw
                            case rel => first | exact ⟨u + 1, _, by omega, by omega, by go_num, Lib.hid (by rw [← hst.out]; exact hU.out), by rw [swp_size]; exact hs_d4, hN_Wv, hC_Wv⟩ | ((repeat apply Exists.intro); refine ⟨?_, rfl⟩; exact ⟨u + 1, _, by omega, by omega, by go_num, Lib.hid (by rw [← hst.out]; exact hU.out), by rw [swp_size]; exact hs_d4, hN_Wv, hC_Wv⟩)
                            case measure => first | (simp [intOf]; done) | (simp [intOf]; omega) | (simp only [intOf]; omega)
                        · have huui : ¬ (u : Int) < (hi : Int) := by omega
                          have hFB : Hid ((if hi - y ≥ 2 then Sort.shiftUp ltN hi (y + 1) d3 else d3) = d4) := Lib.hid (by rw [hFB0.out, ← hU.out]; exact shiftUp_stop (by simp [huu]))
                          have hnext : Hid (Sort.partialIns ltN lo hi s y d4 = RES) := Lib.hid (by rw [← hP.out, pins_step hSy.out hyb hL50, hdS.out, hFA.out, hFB.out])
                          go_wp2
                          go_roundw
                          case rel => first | exact ⟨y, J + 1, s, d4, rfl, by go_num, by omega, by omega, by omega, hnext, hs_d4, hN_wr, hC_wr⟩ | ((repeat apply Exists.intro); refine ⟨?_, rfl⟩; exact ⟨y, J + 1, s, d4, rfl, by go_num, by omega, by omega, by omega, hnext, hs_d4, hN_wr, hC_wr⟩)
                          case measure => first | (simp [intOf]; done) | (simp [intOf]; omega) | (simp only [intOf]; omega)
                    · have hu2i : ¬ (2 : Int) ≤ (hi : Int) - (y : Int) := by omega
                      have hFB : Hid ((if hi - y ≥ 2 then Sort.shiftUp ltN hi (y + 1) d3 else d3) = d3) := Lib.hid (by rw [if_neg hu2])
                      have hnext : Hid (Sort.partialIns ltN lo hi s y d3 = RES) := Lib.hid (by rw [← hP.out, pins_step hSy.out hyb hL50, hdS.out, hFA.out, hFB.out])
                      go_wp2
                      go_roundw
                      case rel => first | exact ⟨y, J + 1, s, d3, rfl, by go_num, by omega, by omega, by omega, hnext, hs_d3, hN_wr, hC_wr⟩ | ((repeat apply Exists.intro); refine ⟨?_, rfl⟩; exact ⟨y, J + 1, s, d3, rfl, by go_num, by omega, by omega, by omega, hnext, hs_d3, hN_wr, hC_wr⟩)
                      case measure => first | (simp [intOf]; done) | (simp [intOf]; omega) | (simp only [intOf]; omega)
              · have hd2i : ¬ (2 : Int) ≤ (y : Int) - (lo : Int) := by omega
                have hFA : Hid ((if y - lo ≥ 2 then Sort.shiftDown ltN (y - 1) dS else dS) = dS) := Lib.hid (by rw [if_neg hd2])
                by_cases hu2 : 2 ≤ hi - y
                · obtain ⟨SU, hSU⟩ : ∃ X, Sort.shiftUp ltN hi (y + 1) dS = X := ⟨_, rfl⟩
                  have hFB0 : Hid ((if hi - y ≥ 2 then Sort.shiftUp ltN hi (y + 1) dS else dS) = SU) := Lib.hid (by rw [if_pos hu2, hSU])
                  have hSU := Lib.hid hSU
                  have hu2i : (2 : Int) ≤ (hi : Int) - (y : Int) := by omega
                  go_wp2
                  go_loopw [10] (fun k wr => ∃ (u : Nat) (d4 : Array Nat), y + 1 ≤ u ∧ u ≤ hi ∧ k = .int .i64 (u : Int) ∧ Hid (Sort.shiftUp ltN hi u d4 = SU) ∧ d4.size = n ∧ NR wr g d4 R ∧ Chg (OnlyG g) w wr) (fun k _ => hi + 1 - (intOf k).toNat)
                  case atStart => exact ⟨y + 1, dS, Nat.le_refl _, by omega, by first | rfl | go_num, hSU, hs_dS, hN_Ws, hC_Ws⟩
                  case round =>
                    obtain ⟨u, d4, hu1, huh, rfl, hU, hs_d4, hN_wr, hC_wr⟩ := hrel
                    by_cases huu : u < hi
                    · have huui : (u : Int) < (hi : Int) := by omega
                      go_wp2_with fail
                      refine s_cut [none, none, none, none, none, none, none, none, none, none, none, none, none, none, none, none, none, none, none, none, none, none, none, none, none, none, none, none, none, none, none, none, none, none, none, none, none, none, none, none, none, none, none, none, none, none, none, none, none, none, none, none, none, none, none, none, none, none, none, none, none, none, none, none, none, none, none, none, none, none, none, none, none, none, none, none, none, none, none, none, none, none, none, none, none, none, none, none, none, none, none, none, none, none, none, none, none, none, none, none, none, none, none, none, none, none, some 106, some 107, some 108, some 109, some 110, some 111, some 112, some 113, some 114, some 115, some 116, none, none, none, none, none, none, none, none, none, none, none, none, none, none, none, none] (fun f W => f 116 = .bool (!ltN d4[u]! d4[u - 1]!) ∧ Below wr.heap.size wr W) (fun Q1 hQ1 => ?_) ?_
                      · skip
                        refine Flow.wp_region_flow (wr.heap.size) [] [] (by kernel_rfl) (by kernel_rfl) (Nat.le_refl _) (fun _ h => by cases h) Flow.facts_nil ?_
                        refine Flow.pass_old (X := .slice (some ⟨g, 0, none⟩) n cap) 0 (Flow.met_none rfl) (.inl rfl) (by kernel_rfl) (by kernel_rfl) rfl ?_
                        refine Flow.pass_old (X := .int .i64 ((u : Int))) 10 (Flow.met_none rfl) (.inl rfl) (by kernel_rfl) (by kernel_rfl) rfl ?_
                        refine Flow.pass_val (.pointer (some ⟨g, u, none⟩)) (Flow.met_none rfl) (fun a W hH => ?_) ?_
                        · have e0 := Flow.see_new 106 0 hH.sees (by kernel_rfl) (by kernel_rfl) rfl rfl
                          have e1 := Flow.see_new 107 1 hH.sees (by kernel_rfl) (by kernel_rfl) rfl rfl
                          exact s_ixS (s := 1) (u) _ rfl Tryz.underlying74 (by kernel_rfl) (by first | exact e0 | simpa [Act.eval] using e0 | (simp [Act.eval])) (by first | exact e1 | simpa [Act.eval] using e1 | (simp [Act.eval])) (by omega) (by omega) (by omega)
                        refine Flow.pass_val (.int .u64 ((d4[u]! : Nat) : Int)) (Flow.met_none rfl) (fun a W hH => ?_) ?_
                        · have e0 := Flow.see_new 108 2 hH.sees (by kernel_rfl) (by kernel_rfl) rfl rfl
                          have cc := nr_cell (hN_wr.below ((Below.refl wr.heap.size wr).drew.trans hH.below) hN_wr.lt) (u) (by omega); go_simp; first | done | rfl
                        refine Flow.pass_old (X := .slice (some ⟨g, 0, none⟩) n cap) 0 (Flow.met_none rfl) (.inl rfl) (by kernel_rfl) (by kernel_rfl) rfl ?_
                        refine Flow.pass_old (X := .int .i64 ((u : Int))) 10 (Flow.met_none rfl) (.inl rfl) (by kernel_rfl) (by kernel_rfl) rfl ?_
                        refine Flow.pass_val (.int .i64 ((u : Int) - 1)) (Flow.met_none rfl) (fun a W hH => ?_) ?_
                        · have e0 := Flow.see_new 111 5 hH.sees (by kernel_rfl) (by kernel_rfl) rfl rfl
                          go_simp; first | done | rfl | (rw [IntWalk.i64_in _ (by omega)]; first | done | rfl | omega | (simp; done))
                        refine Flow.pass_val (.pointer (some ⟨g, (u - 1), none⟩)) (Flow.met_none rfl) (fun a W hH => ?_) ?_
                        · have e0 := Flow.see_new 110 4 hH.sees (by kernel_rfl) (by kernel_rfl) rfl rfl
                          have e1 := Flow.see_new 112 6 hH.sees (by kernel_rfl) (by kernel_rfl) rfl rfl
                          exact s_ixS (s := 1) ((u - 1)) _ rfl Tryz.underlying74 (by kernel_rfl) (by first | exact e0 | simpa [Act.eval] using e0 | (simp [Act.eval])) (by first | exact e1 | simpa [Act.eval] using e1 | (simp [Act.eval])) (by omega) (by omega) (by omega)
                        refine Flow.pass_val (.int .u64 ((d4[(u - 1)]! : Nat) : Int)) (Flow.met_none rfl) (fun a W hH => ?_) ?_
                        · have e0 := Flow.see_new 113 7 hH.sees (by kernel_rfl) (by kernel_rfl) rfl rfl
                          have cc := nr_cell (hN_wr.below ((Below.refl wr.heap.size wr).drew.trans hH.below) hN_wr.lt) ((u - 1)) (by omega); go_simp; first | done | rfl
                        refine Flow.pass_step (Reg.eqs (.bool (ltN (d4[u]!) (d4[(u - 1)]!)))) (fun _ _ => Flow.kept_eqs _ _) (Flow.met_none rfl) (fun a W hH => ?_) ?_
                        · have e0 := Flow.see_new 109 3 hH.sees (by kernel_rfl) (by kernel_rfl) rfl rfl
                          have e1 := Flow.see_new 114 8 hH.sees (by kernel_rfl) (by kernel_rfl) rfl rfl
                          refine Reg.wp_call rfl Tryz.func162 rfl (by kernel_rfl) (by simp [Act.eval, e0, e1]) (lessN (d4[u]!) (d4[(u - 1)]!) W) ?_
                          rintro e w' ⟨rfl, rfl⟩
                          exact ⟨_, rfl, _, rfl, Ext.refl _, rfl⟩
                        refine Flow.pass_val (.bool (!(ltN (d4[u]!) (d4[(u - 1)]!)))) (Flow.met_none rfl) (fun a W hH => ?_) ?_
                        · have e0 := Flow.see_new 115 9 hH.sees (by kernel_rfl) (by kernel_rfl) rfl rfl
                          go_simp; first | done | rfl
                        refine Flow.pass_end [none, none, none, none, none, none, none, none, none, none, none, none, none, none, none, none, none, none, none, none, none, none, none, none, none, none, none, none, none, none, none, none, none, none, none, none, none, none, none, none, none, none, none, none, none, none, none, none, none, none, none, none, none, none, none, none, none, none, none, none, none, none, none, none, none, none, none, none, none, none, none, none, none, none, none, none, none, none, none, none, none, none, none, none, none, none, none, none, none, none, none, none, none, none, none, none, none, none, none, none, none, none, none, none, none, none, some 106, some 107, some 108, some 109, some 110, some 111, some 112, some 113, some 114, some 115, some 116, none, none, none, none, none, none, none, none, none, none, none, none, none, none, none, none] (by kernel_rfl) ?_
                        intro f gg w9 hB hfa hT hfg
                        have h116 : f 116 = _ := (hfg 116 10 (by kernel_rfl)).trans (hT 10 _ (by kernel_rfl) rfl)
                        exact hQ1 f w9 ⟨h116, (Below.refl wr.heap.size wr).drew.trans hB⟩
                      intro f Wt ⟨h116, hBWt⟩
                      simp only [Reg.sel, h116]
                      have hN_Wt := Blk.below hN_wr hBWt (Blk.lt hN_wr)
                      have hC_Wt := hC_wr.trans (Chg.of_ext hBWt)
                      clear h116 hBWt
                      cases hq : ltN d4[u]! d4[u - 1]! with
                      | false =>
                        have hFB : Hid ((if hi - y ≥ 2 then Sort.shiftUp ltN hi (y + 1) dS else dS) = d4) := Lib.hid (by rw [hFB0.out, ← hU.out]; exact shiftUp_stop (by rw [hq]; simp))
                        clear hq
                        have hnext : Hid (Sort.partialIns ltN lo hi s y d4 = RES) := Lib.hid (by rw [← hP.out, pins_step hSy.out hyb hL50, hdS.out, hFA.out, hFB.out])
                        go_wp2
                        go_roundw
                        case rel => first | exact ⟨y, J + 1, s, d4, rfl, by go_num, by omega, by omega, by omega, hnext, hs_d4, hN_Wt, hC_Wt⟩ | ((repeat apply Exists.intro); refine ⟨?_, rfl⟩; exact ⟨y, J + 1, s, d4, rfl, by go_num, by omega, by omega, by omega, hnext, hs_d4, hN_Wt, hC_Wt⟩)
                        case measure => first | (simp [intOf]; done) | (simp [intOf]; omega) | (simp only [intOf]; omega)
                      | true =>
                        have hst := Lib.hid (shiftUp_step huu hq)
                        clear hq
                        go_upto_region 23 with (fail)
                        refine Flow.wp_region_flow (g) [(15, fun b => b = g), (17, fun b => b = g)] [(9, fun W => NR W g d4 R), (13, fun W => NR W g d4 R), (15, fun W => NR W g d4 R), (18, fun W => Chg (OnlyG g) Wt W)] (by kernel_rfl) (by kernel_rfl) (Nat.le_of_lt hN_Wt.lt) (Flow.nz_cons (by rintro b rfl; exact Nat.le_refl _) (Flow.nz_cons (by rintro b rfl; exact Nat.le_refl _) Flow.nz_nil)) (Flow.facts_cons (hN_Wt.drew) (Flow.kept_blk id) (Flow.fz_cons (Flow.no_follow (by kernel_rfl)) (Flow.fz_cons (Flow.no_follow (by kernel_rfl)) Flow.fz_nil)) (Flow.facts_cons (hN_Wt.drew) (Flow.kept_blk id) (Flow.fz_cons (Flow.no_follow (by kernel_rfl)) (Flow.fz_cons (Flow.no_follow (by kernel_rfl)) Flow.fz_nil)) (Flow.facts_cons (hN_Wt.drew) (Flow.kept_blk id) (Flow.fz_cons (Flow.no_follow (by kernel_rfl)) (Flow.fz_cons (Flow.no_follow (by kernel_rfl)) Flow.fz_nil)) (Flow.facts_cons ((Chg.refl _ _).drew) (fun _ _ c h => onlyg_trans h c (by first | exact fun _ hj => hj | exact fun _ hj => hj.elim)) (Flow.fz_cons (fun _ => fun _ _ c h => onlyg_trans h c (by first | exact fun _ hj => hj | exact fun _ hj => hj.elim)) (Flow.fz_cons (fun _ => fun _ _ c h => onlyg_trans h c (by first | exact fun _ hj => hj | exact fun _ hj => hj.elim)) Flow.fz_nil)) Flow.facts_nil)))) ?_
                        refine Flow.pass_old (X := .slice (some ⟨g, 0, none⟩) n cap) 0 (Flow.met_none rfl) (.inl rfl) (by kernel_rfl) (by kernel_rfl) rfl ?_
                        refine Flow.pass_old (X := .int .i64 ((u : Int))) 10 (Flow.met_none rfl) (.inl rfl) (by kernel_rfl) (by kernel_rfl) rfl ?_
                        refine Flow.pass_old (X := .slice (some ⟨g, 0, none⟩) n cap) 0 (Flow.met_none rfl) (.inl rfl) (by kernel_rfl) (by kernel_rfl) rfl ?_
                        refine Flow.pass_old (X := .int .i64 ((u : Int))) 10 (Flow.met_none rfl) (.inl rfl) (by kernel_rfl) (by kernel_rfl) rfl ?_
                        refine Flow.pass_val (.int .i64 ((u : Int) - 1)) (Flow.met_none rfl) (fun a W hH => ?_) ?_
                        · have e0 := Flow.see_new 120 3 hH.sees (by kernel_rfl) (by kernel_rfl) rfl rfl
                          go_simp; first | done | rfl | (rw [IntWalk.i64_in _ (by omega)]; first | done | rfl | omega | (simp; done))
                        refine Flow.pass_old (X := .slice (some ⟨g, 0, none⟩) n cap) 0 (Flow.met_none rfl) (.inl rfl) (by kernel_rfl) (by kernel_rfl) rfl ?_
                        refine Flow.pass_old (X := .int .i64 ((u : Int))) 10 (Flow.met_none rfl) (.inl rfl) (by kernel_rfl) (by kernel_rfl) rfl ?_
                        refine Flow.pass_val (.int .i64 ((u : Int) - 1)) (Flow.met_none rfl) (fun a W hH => ?_) ?_
                        · have e0 := Flow.see_new 123 6 hH.sees (by kernel_rfl) (by kernel_rfl) rfl rfl
                          go_simp; first | done | rfl | (rw [IntWalk.i64_in _ (by omega)]; first | done | rfl | omega | (simp; done))
                        refine Flow.pass_val (.pointer (some ⟨g, (u - 1), none⟩)) (Flow.met_none rfl) (fun a W hH => ?_) ?_
                        · have e0 := Flow.see_new 122 5 hH.sees (by kernel_rfl) (by kernel_rfl) rfl rfl
                          have e1 := Flow.see_new 124 7 hH.sees (by kernel_rfl) (by kernel_rfl) rfl rfl
                          exact s_ixS (s := 1) ((u - 1)) _ rfl Tryz.underlying74 (by kernel_rfl) (by first | exact e0 | simpa [Act.eval] using e0 | (simp [Act.eval])) (by first | exact e1 | simpa [Act.eval] using e1 | (simp [Act.eval])) (by omega) (by omega) (by omega)
                        refine Flow.pass_val (.int .u64 ((d4[(u - 1)]! : Nat) : Int)) (Flow.met_none rfl) (fun a W hH => ?_) ?_
                        · have e0 := Flow.see_new 125 8 hH.sees (by kernel_rfl) (by kernel_rfl) rfl rfl
                          have fa0 : (fun W => NR W g d4 R) W := hH.fact _ (List.mem_of_getElem? (i := 0) rfl) rfl
                          have cc := nr_cell fa0 ((u - 1)) (by omega); go_simp; first | done | rfl
                        refine Flow.pass_old (X := .slice (some ⟨g, 0, none⟩) n cap) 0 (Flow.met_none rfl) (.inl rfl) (by kernel_rfl) (by kernel_rfl) rfl ?_
                        refine Flow.pass_old (X := .int .i64 ((u : Int))) 10 (Flow.met_none rfl) (.inl rfl) (by kernel_rfl) (by kernel_rfl) rfl ?_
                        refine Flow.pass_val (.pointer (some ⟨g, u, none⟩)) (Flow.met_none rfl) (fun a W hH => ?_) ?_
                        · have e0 := Flow.see_new 127 10 hH.sees (by kernel_rfl) (by kernel_rfl) rfl rfl
                          have e1 := Flow.see_new 128 11 hH.sees (by kernel_rfl) (by kernel_rfl) rfl rfl
                          exact s_ixS (s := 1) (u) _ rfl Tryz.underlying74 (by kernel_rfl) (by first | exact e0 | simpa [Act.eval] using e0 | (simp [Act.eval])) (by first | exact e1 | simpa [Act.eval] using e1 | (simp [Act.eval])) (by omega) (by omega) (by omega)
                        refine Flow.pass_val (.int .u64 ((d4[u]! : Nat) : Int)) (Flow.met_none rfl) (fun a W hH => ?_) ?_
                        · have e0 := Flow.see_new 129 12 hH.sees (by kernel_rfl) (by kernel_rfl) rfl rfl
                          have fa1 : (fun W => NR W g d4 R) W := hH.fact _ (List.mem_of_getElem? (i := 1) rfl) rfl
                          have cc := nr_cell fa1 (u) (by omega); go_simp; first | done | rfl
                        refine Flow.pass_val (.pointer (some ⟨g, u, none⟩)) (Flow.met_none rfl) (fun a W hH => ?_) ?_
                        · have e0 := Flow.see_new 117 0 hH.sees (by kernel_rfl) (by kernel_rfl) rfl rfl
                          have e1 := Flow.see_new 118 1 hH.sees (by kernel_rfl) (by kernel_rfl) rfl rfl
                          exact s_ixS (s := 1) (u) _ rfl Tryz.underlying74 (by kernel_rfl) (by first | exact e0 | simpa [Act.eval] using e0 | (simp [Act.eval])) (by first | exact e1 | simpa [Act.eval] using e1 | (simp [Act.eval])) (by omega) (by omega) (by omega)
                        refine Flow.pass_lin [17] (fun _ W => NR W g (d4.setIfInBounds (u) (d4[(u - 1)]!)) R) (Flow.kept_lin [17] (fun _ _ _ c h => h.chg c id) (Flow.lz_cons (Flow.no_follow (by kernel_rfl)) (Flow.lz_cons (fun _ => .inl rfl) Flow.lz_nil))) (Flow.met_none rfl) (fun a W hH => ?_) ?_
                        · have e0 := Flow.see_new 131 14 hH.sees (by kernel_rfl) (by kernel_rfl) rfl rfl
                          have e1 := Flow.see_new 126 9 hH.sees (by kernel_rfl) (by kernel_rfl) rfl rfl
                          have fa2 : (fun W => NR W g d4 R) W := hH.fact _ (List.mem_of_getElem? (i := 2) rfl) rfl
                          refine s_skip (s_store rfl (by kernel_rfl) fa2 e0 e1 (nr_size (by omega))) ?_
                          exact ⟨_, rfl, Chg.grown (s_grown _ _ _ _) (by rintro j h; cases h; rfl), nr_set fa2 _ (by omega) _⟩
                        refine Flow.pass_val (.pointer (some ⟨g, (u - 1), none⟩)) (Flow.met_none rfl) (fun a W hH => ?_) ?_
                        · have e0 := Flow.see_new 119 2 hH.sees (by kernel_rfl) (by kernel_rfl) rfl rfl
                          have e1 := Flow.see_new 121 4 hH.sees (by kernel_rfl) (by kernel_rfl) rfl rfl
                          exact s_ixS (s := 1) ((u - 1)) _ rfl Tryz.underlying74 (by kernel_rfl) (by first | exact e0 | simpa [Act.eval] using e0 | (simp [Act.eval])) (by first | exact e1 | simpa [Act.eval] using e1 | (simp [Act.eval])) (by omega) (by omega) (by omega)
                        refine Flow.pass_gen (fun _ W => NR W g ((d4.setIfInBounds (u) (d4[(u - 1)]!)).setIfInBounds ((u - 1)) (d4[u]!)) R) (Flow.kept_of (fun _ _ _ c h => h.chg c id) (Flow.kz_cons (Flow.no_follow (by kernel_rfl)) (Flow.kz_cons (Flow.no_follow (by kernel_rfl)) Flow.kz_nil))) (Flow.met_none rfl) (fun a W hH => ?_) ?_
                        · have e0 := Flow.see_new 132 16 hH.sees (by kernel_rfl) (by kernel_rfl) rfl rfl
                          have e1 := Flow.see_new 130 13 hH.sees (by kernel_rfl) (by kernel_rfl) rfl rfl
                          obtain ⟨_, hP⟩ := Flow.past_lin 15 hH.past (by kernel_rfl) (by kernel_rfl) rfl (by kernel_rfl)
                          refine s_skip (s_store rfl (by kernel_rfl) hP e0 e1 (nr_size (by rw [Array.size_setIfInBounds]; omega))) ?_
                          exact ⟨_, rfl, Chg.grown (s_grown _ _ _ _) (by rintro j h; cases h; rfl), nr_set hP _ (by rw [Array.size_setIfInBounds]; omega) _⟩
                        refine Flow.pass_end [none, none, none, none, none, none, none, none, none, none, none, none, none, none, none, none, none, none, none, none, none, none, none, none, none, none, none, none, none, none, none, none, none, none, none, none, none, none, none, none, none, none, none, none, none, none, none, none, none, none, none, none, none, none, none, none, none, none, none, none, none, none, none, none, none, none, none, none, none, none, none, none, none, none, none, none, none, none, none, none, none, none, none, none, none, none, none, none, none, none, none, none, none, none, none, none, none, none, none, none, none, none, none, none, none, none, none, none, none, none, none, none, none, none, none, none, none, some 117, some 118, some 119, some 120, some 121, some 122, some 123, some 124, some 125, some 126, some 127, some 128, some 129, some 130, some 131, some 132] (by kernel_rfl) ?_
                        intro f gg w9 hB hfa hT hfg
                        have F3 : (fun W => Chg (OnlyG g) Wt W) w9 := hfa _ (List.mem_of_getElem? (i := 3) rfl) (Nat.le_refl _)
                        have hN_Wv : NR w9 g (Sort.swp d4 (u) (u - 1)) R := hT 17 _ (by kernel_rfl) rfl
                        have hC_Wv := hC_Wt.trans F3
                        simp only [Reg.sel]
                        obtain ⟨Wv, hWWv⟩ : ∃ W, W = w9 := ⟨_, rfl⟩
                        subst hWWv
                        clear hT hfg hfa hB F3
                        go_wp2
                        go_roundw
                        case rel => first | exact ⟨u + 1, _, by omega, by omega, by go_num, Lib.hid (by rw [← hst.out]; exact hU.out), by rw [swp_size]; exact hs_d4, hN_Wv, hC_Wv⟩ | ((repeat apply Exists.intro); refine ⟨?_, rfl⟩; exact ⟨u + 1, _, by omega, by omega, by go_num, Lib.hid (by rw [← hst.out]; exact hU.out), by rw [swp_size]; exact hs_d4, hN_Wv, hC_Wv⟩)
                        case measure => first | (simp [intOf]; done) | (simp [intOf]; omega) | (simp only [intOf]; omega)
                    · have huui : ¬ (u : Int) < (hi : Int) := by omega
                      have hFB : Hid ((if hi - y ≥ 2 then Sort.shiftUp ltN hi (y + 1) dS else dS) = d4) := Lib.hid (by rw [hFB0.out, ← hU.out]; exact shiftUp_stop (by simp [huu]))
                      have hnext : Hid (Sort.partialIns ltN lo hi s y d4 = RES) := Lib.hid (by rw [← hP.out, pins_step hSy.out hyb hL50, hdS.out, hFA.out, hFB.out])
                      go_wp2
                      go_roundw
                      case rel => first | exact ⟨y, J + 1, s, d4, rfl, by go_num, by omega, by omega, by omega, hnext, hs_d4, hN_wr, hC_wr⟩ | ((repeat apply Exists.intro); refine ⟨?_, rfl⟩; exact ⟨y, J + 1, s, d4, rfl, by go_num, by omega, by omega, by omega, hnext, hs_d4, hN_wr, hC_wr⟩)
                      case measure => first | (simp [intOf]; done) | (simp [intOf]; omega) | (simp only [intOf]; omega)
                · have hu2i : ¬ (2 : Int) ≤ (hi : Int) - (y : Int) := by omega
                  have hFB : Hid ((if hi - y ≥ 2 then Sort.shiftUp ltN hi (y + 1) dS else dS) = dS) := Lib.hid (by rw [if_neg hu2])
                  have hnext : Hid (Sort.partialIns ltN lo hi s y dS = RES) := Lib.hid (by rw [← hP.out, pins_step hSy.out hyb hL50, hdS.out, hFA.out, hFB.out])
                  go_wp2
                  go_roundw
                  case rel => first | exact ⟨y, J + 1, s, dS, rfl, by go_num, by omega, by omega, by omega, hnext, hs_dS, hN_Ws, hC_Ws⟩ | ((repeat apply Exists.intro); refine ⟨?_, rfl⟩; exact ⟨y, J + 1, s, dS, rfl, by go_num, by omega, by omega, by omega, hnext, hs_dS, hN_Ws, hC_Ws⟩)
                  case measure => first | (simp [intOf]; done) | (simp [intOf]; omega) | (simp only [intOf]; omega)
    · obtain rfl : s = 0 := by omega
      have hJi : ¬ (J : Int) < 5 := by omega
      have hre : Hid (RES = (d1, false)) := Lib.hid (by rw [← hP.out]; rfl)
      go_wp2
      go_ret
      refine ⟨?_, ?_, hC_wr⟩
      · rw [hre.out]; rfl
      · rw [hre.out]; exact hN_wr
end Go.Proofs.YtipdmhppadapkaaGreatDoor
/-
  Walk: breakPatternsOrdered at uint64.
-/
namespace Go.Proofs.YtipdmhppadapkaaGreatDoor
open Go.RowKit

theorem chg_past {g : Nat} {a b c : World} (h : Chg (OnlyG g) a b) (k : Chg (OnlyG a.heap.size) b c) : Chg (OnlyG g) a c :=
  ⟨k.os.trans h.os, k.tape.trans h.tape, k.output.trans h.output, Nat.le_trans h.size k.size, fun i hi hn => (k.block i (Nat.lt_of_lt_of_le hi h.size) (fun e => by have e2 : i = a.heap.size := e; omega)).trans (h.block i hi hn)⟩
theorem u64_and_ex (x y : Nat) (hx : x < 18446744073709551616) (hy : y < 18446744073709551616) : ∃ z : Nat, z ≤ y ∧ bits .and .u64 (x : Int) (y : Int) = ((z : Nat) : Int) := ⟨x &&& y, Nat.and_le_right, u64_and_nat x y hx hy⟩
set_option maxRecDepth 100000 in
set_option maxHeartbeats 2000000 in
theorem len_walk (x : Nat) (hx : 0 < x) (hx5 : x ≤ 1000000) (w : World) : Calls Tryz.prog 137 #[.int .u64 (x : Int)] w fun e w' => (∃ L : Nat, LenOk x L ∧ e = .returned (.int .i64 (L : Int))) ∧ w' = w := by
  have hc := len64_walk x hx hx5 w
  go_enter Tryz.func137, Tryz.ntmps137
  go_wp2_with fail
  refine Calls.mono hc ?_
  rintro e w' ⟨⟨L, hL, rfl⟩, rfl⟩
  go_wp2
  go_ret
  exact ⟨⟨L, hL, rfl⟩, rfl⟩
set_option maxRecDepth 100000 in
set_option maxHeartbeats 2000000 in
theorem nextPow_walk (x : Nat) (hx : 0 < x) (hx5 : x ≤ 1000000) (w : World) : Calls Tryz.prog 176 #[.int .i64 (x : Int)] w fun e w' => (∃ M : Nat, (1 ≤ M ∧ M ≤ 2 * x) ∧ e = .returned (.int .u64 (M : Int))) ∧ w' = w := by
  have hc := len_walk x hx hx5 w
  have hw : IntKind.u64.wrap (x : Int) = (x : Int) := IntWalk.u64_in _ (by omega)
  go_enter Tryz.func176, Tryz.ntmps176
  go_wp2_with fail
  refine Calls.mono hc ?_
  rintro e w' ⟨⟨L, hL, rfl⟩, rfl⟩
  obtain ⟨M, hM⟩ : ∃ M, 2 ^ L = M := ⟨_, rfl⟩
  have h1 : 1 ≤ M := by rw [← hM]; exact Nat.one_le_two_pow
  have h2 : M ≤ 2 * x := by rw [← hM]; exact hL.1
  have hMi : ((2 : Int) ^ L) = (M : Int) := by rw [← hM]; simp
  have hMi2 : ((2 ^ L : Nat) : Int) = (M : Int) := by rw [hM]
  have hMw : IntKind.u64.wrap (M : Int) = (M : Int) := IntWalk.u64_in _ (by omega)
  have hL20 : (L : Int) < 64 := by have := hL.2; omega
  clear hL hM hc
  go_wp2
  go_ret
  exact ⟨⟨M, ⟨h1, h2⟩, by first | rfl | (simp [hMi, hMi2, hMw]; done)⟩, rfl⟩
set_option maxRecDepth 100000 in
set_option maxHeartbeats 2000000 in
theorem breakPatterns_walk (g : Nat) (R : List Value) (d : Array Nat) (n cap lo hi : Nat) (hn : d.size = n) (hlo : lo + 12 < hi) (hhi : hi ≤ n) (hn5 : n ≤ 1000000) (w : World) (hN : NR w g d R) :
    Calls Tryz.prog 158 #[.slice (some ⟨g, 0, none⟩) n cap, .int .i64 (lo : Int), .int .i64 (hi : Int)] w (SRet w g R fun d' => Sort.PermIn lo hi d d') := by
  obtain ⟨L, hL⟩ : ∃ L, hi - lo = L := ⟨_, rfl⟩
  obtain ⟨Q, hQ⟩ : ∃ Q, L / 4 = Q := ⟨_, rfl⟩
  obtain ⟨S, hS⟩ : ∃ S, lo + Q * 2 - 1 = S := ⟨_, rfl⟩
  have hLi : IntKind.i64.wrap ((hi : Int) - (lo : Int)) = (L : Int) := by rw [IntWalk.i64_in _ (by omega)]; omega
  have hLu : IntKind.u64.wrap (L : Int) = (L : Int) := IntWalk.u64_in _ (by omega)
  have hQi : (L : Int) / 4 = (Q : Int) := by omega
  have hQt : (L : Int).tdiv 4 = (Q : Int) := by rw [Int.tdiv_eq_ediv_of_nonneg (by omega)]; omega
  have k0 : IntKind.i64.wrap (Q : Int) = (Q : Int) := IntWalk.i64_in _ (by omega)
  have k1 : IntKind.i64.wrap ((Q : Int) * 2) = (Q : Int) * 2 := IntWalk.i64_in _ (by omega)
  have k2 : IntKind.i64.wrap ((lo : Int) + (Q : Int) * 2) = (lo : Int) + (Q : Int) * 2 := IntWalk.i64_in _ (by omega)
  have k3 : IntKind.i64.wrap ((lo : Int) + (Q : Int) * 2 - 1) = (S : Int) := by rw [IntWalk.i64_in _ (by omega)]; omega
  have k4 : IntKind.i64.wrap ((lo : Int) + (Q : Int) * 2 + 1) = (lo : Int) + (Q : Int) * 2 + 1 := IntWalk.i64_in _ (by omega)
  have hL8 : (8 : Int) ≤ (L : Int) := by omega
  have HS : Hid (lo + L = hi ∧ Q * 4 ≤ L ∧ L < Q * 4 + 4 ∧ S + 1 = lo + Q * 2 ∧ 3 ≤ Q ∧ 13 ≤ L ∧ L ≤ n) := Lib.hid (by omega)
  have hnp := nextPow_walk L (by omega) (by omega)
  have hzx : ∀ W, (zeroValue 250).run Tryz.prog W = .ok (.int .u64 0) W := fun W => by kernel_rfl
  have hb1 := Blk.new w 250 #[.int .u64 (L : Int)]
  have B1 : Below w.heap.size w (w.alloc (.cells #[.int .u64 (L : Int)] 250)) := (Below.refl _ _).alloc (Nat.le_refl _) _
  have hglt := hN.lt
  clear hL hQ hS
  go_enter Tryz.func158, Tryz.ntmps158
  go_wp2_with fail
  generalize w.alloc (.cells #[.int .u64 (L : Int)] 250) = W1 at *
  refine Calls.mono (hnp W1) ?_
  rintro e w' ⟨⟨M, hM, rfl⟩, rfl⟩
  have hNw := Blk.below hN B1 hN.lt
  have hC1 : Chg (OnlyG g) w w' := Chg.of_ext B1
  have hne : ¬ w.heap.size = g := by omega
  have HM := Lib.hid hM
  have HG := Lib.hid hne
  obtain ⟨M1, hM1⟩ : ∃ m, M - 1 = m := ⟨_, rfl⟩
  have m1 : IntKind.u64.wrap ((M : Int) - 1) = (M1 : Int) := by have := HS.out; rw [IntWalk.u64_in _ (by omega)]; omega
  have m2 : (M : Int) - 1 = (M1 : Int) := by omega
  have m3 : IntKind.u64.wrap (M1 : Int) = (M1 : Int) := by have := HS.out; exact IntWalk.u64_in _ (by omega)
  have HM1 : Hid (M1 + 1 ≤ 2 * L ∧ M1 < 18446744073709551616) := Lib.hid (by have := HS.out; omega)
  clear hM hM1 hnp hzx hglt hne B1
  go_wp2
  go_loopw [9] (fun i wr => ∃ (x : Nat) (d1 : Array Nat) (z : Nat), S ≤ x ∧ x ≤ S + 3 ∧ i = .int .i64 (x : Int) ∧ Hid (Sort.PermIn lo hi d d1) ∧ d1.size = n ∧ NR wr g d1 R ∧ z < 18446744073709551616 ∧ Blk wr w.heap.size 250 #[.int .u64 (z : Int)] ∧ Chg (OnlyG g) w wr) (fun i _ => S + 4 - (intOf i).toNat)
  case atStart => exact ⟨S, d, L, Nat.le_refl _, by omega, by first | rfl | go_num, Lib.hid (Sort.permIn_refl d lo hi), hn, hNw, by have := HS.out; omega, hb1, hC1⟩
  case round =>
    obtain ⟨x, d1, z, hx1, hx2, rfl, hP, hn1, hN_wr, hz, hbz, hC_wr⟩ := hrel
    by_cases hlt : x < S + 3
    · have hlti : (x : Int) ≤ (lo : Int) + (Q : Int) * 2 + 1 := by have := HS.out; omega
      have hcall := xorNext_walk w.heap.size z hz wr hbz
      go_wp2_with fail
      refine Calls.mono hcall ?_
      rintro e W3 ⟨z2, hz2, rfl, hb3, hC3⟩
      have hN_W3 := Blk.chg hN_wr hC3 (fun e => HG.out (Eq.symm e))
      have hC_W3 : Chg (OnlyG g) w W3 := chg_past hC_wr hC3
      obtain ⟨A, hA, hand⟩ := u64_and_ex z2 M1 hz2 HM1.out.2
      have hA2 : A + 1 ≤ 2 * L := by have := HM1.out.1; omega
      have hAw : IntKind.i64.wrap (A : Int) = (A : Int) := by have := HS.out; exact IntWalk.i64_in _ (by omega)
      clear hcall hbz hC3 hN_wr hC_wr
      by_cases hAL : L ≤ A
      · have hALi : (L : Int) ≤ (A : Int) := by omega
        obtain ⟨o, ho⟩ : ∃ o, A - L = o := ⟨_, rfl⟩
        have how : IntKind.i64.wrap ((A : Int) - (L : Int)) = (o : Int) := by have := HS.out; rw [IntWalk.i64_in _ (by omega)]; omega
        have hoL : o < L := by omega
        have hoS : lo + o < n ∧ x < n := by have := HS.out; omega
        go_wp2_with fail
        refine Flow.wp_region_flow (g) [(17, fun b => b = g), (19, fun b => b = g)] [(11, fun W => NR W g d1 R), (15, fun W => NR W g d1 R), (17, fun W => NR W g d1 R), (20, fun W => Chg (OnlyG g) W3 W), (20, fun W => Blk W w.heap.size 250 #[.int .u64 (z2 : Int)])] (by kernel_rfl) (by kernel_rfl) (Nat.le_of_lt hN_W3.lt) (Flow.nz_cons (by rintro b rfl; exact Nat.le_refl _) (Flow.nz_cons (by rintro b rfl; exact Nat.le_refl _) Flow.nz_nil)) (Flow.facts_cons (hN_W3.drew) (Flow.kept_blk id) (Flow.fz_cons (Flow.no_follow (by kernel_rfl)) (Flow.fz_cons (Flow.no_follow (by kernel_rfl)) Flow.fz_nil)) (Flow.facts_cons (hN_W3.drew) (Flow.kept_blk id) (Flow.fz_cons (Flow.no_follow (by kernel_rfl)) (Flow.fz_cons (Flow.no_follow (by kernel_rfl)) Flow.fz_nil)) (Flow.facts_cons (hN_W3.drew) (Flow.kept_blk id) (Flow.fz_cons (Flow.no_follow (by kernel_rfl)) (Flow.fz_cons (Flow.no_follow (by kernel_rfl)) Flow.fz_nil)) (Flow.facts_cons ((Chg.refl _ _).drew) (fun _ _ c h => onlyg_trans h c (by first | exact fun _ hj => hj | exact fun _ hj => hj.elim)) (Flow.fz_cons (fun _ => fun _ _ c h => onlyg_trans h c (by first | exact fun _ hj => hj | exact fun _ hj => hj.elim)) (Flow.fz_cons (fun _ => fun _ _ c h => onlyg_trans h c (by first | exact fun _ hj => hj | exact fun _ hj => hj.elim)) Flow.fz_nil)) (Flow.facts_cons (hb3.drew) (fun _ _ c h => h.chg c id) (Flow.fz_cons (fun _ => fun _ _ c h => h.chg c (fun e => HG.out e)) (Flow.fz_cons (fun _ => fun _ _ c h => h.chg c (fun e => HG.out e)) Flow.fz_nil)) Flow.facts_nil))))) ?_
        refine Flow.pass_old (X := .slice (some ⟨g, 0, none⟩) n cap) 0 (Flow.met_none rfl) (.inl rfl) (by kernel_rfl) (by kernel_rfl) rfl ?_
        refine Flow.pass_old (X := .int .i64 ((x : Int))) 9 (Flow.met_none rfl) (.inl rfl) (by kernel_rfl) (by kernel_rfl) rfl ?_
        refine Flow.pass_old (X := .slice (some ⟨g, 0, none⟩) n cap) 0 (Flow.met_none rfl) (.inl rfl) (by kernel_rfl) (by kernel_rfl) rfl ?_
        refine Flow.pass_old (X := .int .i64 ((lo : Int))) 1 (Flow.met_none rfl) (.inl rfl) (by kernel_rfl) (by kernel_rfl) rfl ?_
        refine Flow.pass_old (X := .int .i64 ((o : Int))) 10 (Flow.met_none rfl) (.inl rfl) (by kernel_rfl) (by kernel_rfl) rfl ?_
        refine Flow.pass_val (.int .i64 ((lo : Int) + (o : Int))) (Flow.met_none rfl) (fun a W hH => ?_) ?_
        · have e0 := Flow.see_new 50 3 hH.sees (by kernel_rfl) (by kernel_rfl) rfl rfl
          have e1 := Flow.see_new 51 4 hH.sees (by kernel_rfl) (by kernel_rfl) rfl rfl
          go_simp; first | done | rfl | (rw [IntWalk.i64_in _ (by omega)]; first | done | rfl | omega | (simp; done))
        refine Flow.pass_old (X := .slice (some ⟨g, 0, none⟩) n cap) 0 (Flow.met_none rfl) (.inl rfl) (by kernel_rfl) (by kernel_rfl) rfl ?_
        refine Flow.pass_old (X := .int .i64 ((lo : Int))) 1 (Flow.met_none rfl) (.inl rfl) (by kernel_rfl) (by kernel_rfl) rfl ?_
        refine Flow.pass_old (X := .int .i64 ((o : Int))) 10 (Flow.met_none rfl) (.inl rfl) (by kernel_rfl) (by kernel_rfl) rfl ?_
        refine Flow.pass_val (.int .i64 ((lo : Int) + (o : Int))) (Flow.met_none rfl) (fun a W hH => ?_) ?_
        · have e0 := Flow.see_new 54 7 hH.sees (by kernel_rfl) (by kernel_rfl) rfl rfl
          have e1 := Flow.see_new 55 8 hH.sees (by kernel_rfl) (by kernel_rfl) rfl rfl
          go_simp; first | done | rfl | (rw [IntWalk.i64_in _ (by omega)]; first | done | rfl | omega | (simp; done))
        refine Flow.pass_val (.pointer (some ⟨g, (lo + o), none⟩)) (Flow.met_none rfl) (fun a W hH => ?_) ?_
        · have e0 := Flow.see_new 53 6 hH.sees (by kernel_rfl) (by kernel_rfl) rfl rfl
          have e1 := Flow.see_new 56 9 hH.sees (by kernel_rfl) (by kernel_rfl) rfl rfl
          exact s_ixS (s := 1) ((lo + o)) _ rfl Tryz.underlying74 (by kernel_rfl) (by first | exact e0 | simpa [Act.eval] using e0 | (simp [Act.eval])) (by first | exact e1 | simpa [Act.eval] using e1 | (simp [Act.eval])) (by omega) (by omega) (by omega)
        refine Flow.pass_val (.int .u64 ((d1[(lo + o)]! : Nat) : Int)) (Flow.met_none rfl) (fun a W hH => ?_) ?_
        · have e0 := Flow.see_new 57 10 hH.sees (by kernel_rfl) (by kernel_rfl) rfl rfl
          have fa0 : (fun W => NR W g d1 R) W := hH.fact _ (List.mem_of_getElem? (i := 0) rfl) rfl
          have cc := nr_cell fa0 ((lo + o)) (by omega); go_simp; first | done | rfl
        refine Flow.pass_old (X := .slice (some ⟨g, 0, none⟩) n cap) 0 (Flow.met_none rfl) (.inl rfl) (by kernel_rfl) (by kernel_rfl) rfl ?_
        refine Flow.pass_old (X := .int .i64 ((x : Int))) 9 (Flow.met_none rfl) (.inl rfl) (by kernel_rfl) (by kernel_rfl) rfl ?_
        refine Flow.pass_val (.pointer (some ⟨g, x, none⟩)) (Flow.met_none rfl) (fun a W hH => ?_) ?_
        · have e0 := Flow.see_new 59 12 hH.sees (by kernel_rfl) (by kernel_rfl) rfl rfl
          have e1 := Flow.see_new 60 13 hH.sees (by kernel_rfl) (by kernel_rfl) rfl rfl
          exact s_ixS (s := 1) (x) _ rfl Tryz.underlying74 (by kernel_rfl) (by first | exact e0 | simpa [Act.eval] using e0 | (simp [Act.eval])) (by first | exact e1 | simpa [Act.eval] using e1 | (simp [Act.eval])) (by omega) (by omega) (by omega)
        refine Flow.pass_val (.int .u64 ((d1[x]! : Nat) : Int)) (Flow.met_none rfl) (fun a W hH => ?_) ?_
        · have e0 := Flow.see_new 61 14 hH.sees (by kernel_rfl) (by kernel_rfl) rfl rfl
          have fa1 : (fun W => NR W g d1 R) W := hH.fact _ (List.mem_of_getElem? (i := 1) rfl) rfl
          have cc := nr_cell fa1 (x) (by omega); go_simp; first | done | rfl
        refine Flow.pass_val (.pointer (some ⟨g, x, none⟩)) (Flow.met_none rfl) (fun a W hH => ?_) ?_
        · have e0 := Flow.see_new 47 0 hH.sees (by kernel_rfl) (by kernel_rfl) rfl rfl
          have e1 := Flow.see_new 48 1 hH.sees (by kernel_rfl) (by kernel_rfl) rfl rfl
          exact s_ixS (s := 1) (x) _ rfl Tryz.underlying74 (by kernel_rfl) (by first | exact e0 | simpa [Act.eval] using e0 | (simp [Act.eval])) (by first | exact e1 | simpa [Act.eval] using e1 | (simp [Act.eval])) (by omega) (by omega) (by omega)
        refine Flow.pass_lin [19] (fun _ W => NR W g (d1.setIfInBounds (x) (d1[(lo + o)]!)) R) (Flow.kept_lin [19] (fun _ _ _ c h => h.chg c id) (Flow.lz_cons (Flow.no_follow (by kernel_rfl)) (Flow.lz_cons (fun _ => .inl rfl) Flow.lz_nil))) (Flow.met_none rfl) (fun a W hH => ?_) ?_
        · have e0 := Flow.see_new 63 16 hH.sees (by kernel_rfl) (by kernel_rfl) rfl rfl
          have e1 := Flow.see_new 58 11 hH.sees (by kernel_rfl) (by kernel_rfl) rfl rfl
          have fa2 : (fun W => NR W g d1 R) W := hH.fact _ (List.mem_of_getElem? (i := 2) rfl) rfl
          refine s_skip (s_store rfl (by kernel_rfl) fa2 e0 e1 (nr_size (by omega))) ?_
          exact ⟨_, rfl, Chg.grown (s_grown _ _ _ _) (by rintro j h; cases h; rfl), nr_set fa2 _ (by omega) _⟩
        refine Flow.pass_val (.pointer (some ⟨g, (lo + o), none⟩)) (Flow.met_none rfl) (fun a W hH => ?_) ?_
        · have e0 := Flow.see_new 49 2 hH.sees (by kernel_rfl) (by kernel_rfl) rfl rfl
          have e1 := Flow.see_new 52 5 hH.sees (by kernel_rfl) (by kernel_rfl) rfl rfl
          exact s_ixS (s := 1) ((lo + o)) _ rfl Tryz.underlying74 (by kernel_rfl) (by first | exact e0 | simpa [Act.eval] using e0 | (simp [Act.eval])) (by first | exact e1 | simpa [Act.eval] using e1 | (simp [Act.eval])) (by omega) (by omega) (by omega)
        refine Flow.pass_gen (fun _ W => NR W g ((d1.setIfInBounds (x) (d1[(lo + o)]!)).setIfInBounds ((lo + o)) (d1[x]!)) R) (Flow.kept_of (fun _ _ _ c h => h.chg c id) (Flow.kz_cons (Flow.no_follow (by kernel_rfl)) (Flow.kz_cons (Flow.no_follow (by kernel_rfl)) Flow.kz_nil))) (Flow.met_none rfl) (fun a W hH => ?_) ?_
        · have e0 := Flow.see_new 64 18 hH.sees (by kernel_rfl) (by kernel_rfl) rfl rfl
          have e1 := Flow.see_new 62 15 hH.sees (by kernel_rfl) (by kernel_rfl) rfl rfl
          obtain ⟨_, hP⟩ := Flow.past_lin 17 hH.past (by kernel_rfl) (by kernel_rfl) rfl (by kernel_rfl)
          refine s_skip (s_store rfl (by kernel_rfl) hP e0 e1 (nr_size (by rw [Array.size_setIfInBounds]; omega))) ?_
          exact ⟨_, rfl, Chg.grown (s_grown _ _ _ _) (by rintro j h; cases h; rfl), nr_set hP _ (by rw [Array.size_setIfInBounds]; omega) _⟩
        refine Flow.pass_end [none, none, none, none, none, none, none, none, none, none, none, none, none, none, none, none, none, none, none, none, none, none, none, none, none, none, none, none, none, none, none, none, none, none, none, none, none, none, none, none, none, none, none, none, none, none, none, some 47, some 48, some 49, some 50, some 51, some 52, some 53, some 54, some 55, some 56, some 57, some 58, some 59, some 60, some 61, some 62, some 63, some 64] (by kernel_rfl) ?_
        intro f gg w9 hB hfa hT hfg
        have F3 : (fun W => Chg (OnlyG g) W3 W) w9 := hfa _ (List.mem_of_getElem? (i := 3) rfl) (Nat.le_refl _)
        have F4 : (fun W => Blk W w.heap.size 250 #[.int .u64 (z2 : Int)]) w9 := hfa _ (List.mem_of_getElem? (i := 4) rfl) (Nat.le_refl _)
        have hN_W4 : NR w9 g (Sort.swp d1 (x) (lo + o)) R := hT 19 _ (by kernel_rfl) rfl
        have hC_W4 := hC_W3.trans F3
        simp only [Reg.sel]
        obtain ⟨W4, hWW4⟩ : ∃ W, W = w9 := ⟨_, rfl⟩
        subst hWW4
        clear hT hfg hfa hB F3
        have hb4 := F4
        go_wp2
        go_roundw
        case rel => first | exact ⟨x + 1, _, z2, by omega, by omega, by go_num, Lib.hid (Sort.permIn_trans _ _ _ lo hi hP.out (Sort.swp_permIn d1 lo hi x (lo + o) (by have := HS.out; omega) (by have := HS.out; omega) (by omega) (by have := HS.out; omega) (by omega))), by rw [swp_size]; exact hn1, hN_W4, hz2, hb4, hC_W4⟩ | ((repeat apply Exists.intro); refine ⟨?_, rfl⟩; exact ⟨x + 1, _, z2, by omega, by omega, by go_num, Lib.hid (Sort.permIn_trans _ _ _ lo hi hP.out (Sort.swp_permIn d1 lo hi x (lo + o) (by have := HS.out; omega) (by have := HS.out; omega) (by omega) (by have := HS.out; omega) (by omega))), by rw [swp_size]; exact hn1, hN_W4, hz2, hb4, hC_W4⟩)
        case measure => first | (simp [intOf]; done) | (simp [intOf]; omega) | (simp only [intOf]; omega)
      · have hALi : ¬ (L : Int) ≤ (A : Int) := by omega
        have hoL : A < L := by omega
        have hoS : lo + A < n ∧ x < n := by have := HS.out; omega
        go_wp2_with fail
        refine Flow.wp_region_flow (g) [(17, fun b => b = g), (19, fun b => b = g)] [(11, fun W => NR W g d1 R), (15, fun W => NR W g d1 R), (17, fun W => NR W g d1 R), (20, fun W => Chg (OnlyG g) W3 W), (20, fun W => Blk W w.heap.size 250 #[.int .u64 (z2 : Int)])] (by kernel_rfl) (by kernel_rfl) (Nat.le_of_lt hN_W3.lt) (Flow.nz_cons (by rintro b rfl; exact Nat.le_refl _) (Flow.nz_cons (by rintro b rfl; exact Nat.le_refl _) Flow.nz_nil)) (Flow.facts_cons (hN_W3.drew) (Flow.kept_blk id) (Flow.fz_cons (Flow.no_follow (by kernel_rfl)) (Flow.fz_cons (Flow.no_follow (by kernel_rfl)) Flow.fz_nil)) (Flow.facts_cons (hN_W3.drew) (Flow.kept_blk id) (Flow.fz_cons (Flow.no_follow (by kernel_rfl)) (Flow.fz_cons (Flow.no_follow (by kernel_rfl)) Flow.fz_nil)) (Flow.facts_cons (hN_W3.drew) (Flow.kept_blk id) (Flow.fz_cons (Flow.no_follow (by kernel_rfl)) (Flow.fz_cons (Flow.no_follow (by kernel_rfl)) Flow.fz_nil)) (Flow.facts_cons ((Chg.refl _ _).drew) (fun _ _ c h => onlyg_trans h c (by first | exact fun _ hj => hj | exact fun _ hj => hj.elim)) (Flow.fz_cons (fun _ => fun _ _ c h => onlyg_trans h c (by first | exact fun _ hj => hj | exact fun _ hj => hj.elim)) (Flow.fz_cons (fun _ => fun _ _ c h => onlyg_trans h c (by first | exact fun _ hj => hj | exact fun _ hj => hj.elim)) Flow.fz_nil)) (Flow.facts_cons (hb3.drew) (fun _ _ c h => h.chg c id) (Flow.fz_cons (fun _ => fun _ _ c h => h.chg c (fun e => HG.out e)) (Flow.fz_cons (fun _ => fun _ _ c h => h.chg c (fun e => HG.out e)) Flow.fz_nil)) Flow.facts_nil))))) ?_
        refine Flow.pass_old (X := .slice (some ⟨g, 0, none⟩) n cap) 0 (Flow.met_none rfl) (.inl rfl) (by kernel_rfl) (by kernel_rfl) rfl ?_
        refine Flow.pass_old (X := .int .i64 ((x : Int))) 9 (Flow.met_none rfl) (.inl rfl) (by kernel_rfl) (by kernel_rfl) rfl ?_
        refine Flow.pass_old (X := .slice (some ⟨g, 0, none⟩) n cap) 0 (Flow.met_none rfl) (.inl rfl) (by kernel_rfl) (by kernel_rfl) rfl ?_
        refine Flow.pass_old (X := .int .i64 ((lo : Int))) 1 (Flow.met_none rfl) (.inl rfl) (by kernel_rfl) (by kernel_rfl) rfl ?_
        refine Flow.pass_old (X := .int .i64 ((A : Int))) 10 (Flow.met_none rfl) (.inl rfl) (by kernel_rfl) (by kernel_rfl) rfl ?_
        refine Flow.pass_val (.int .i64 ((lo : Int) + (A : Int))) (Flow.met_none rfl) (fun a W hH => ?_) ?_
        · have e0 := Flow.see_new 50 3 hH.sees (by kernel_rfl) (by kernel_rfl) rfl rfl
          have e1 := Flow.see_new 51 4 hH.sees (by kernel_rfl) (by kernel_rfl) rfl rfl
          go_simp; first | done | rfl | (rw [IntWalk.i64_in _ (by omega)]; first | done | rfl | omega | (simp; done))
        refine Flow.pass_old (X := .slice (some ⟨g, 0, none⟩) n cap) 0 (Flow.met_none rfl) (.inl rfl) (by kernel_rfl) (by kernel_rfl) rfl ?_
        refine Flow.pass_old (X := .int .i64 ((lo : Int))) 1 (Flow.met_none rfl) (.inl rfl) (by kernel_rfl) (by kernel_rfl) rfl ?_
        refine Flow.pass_old (X := .int .i64 ((A : Int))) 10 (Flow.met_none rfl) (.inl rfl) (by kernel_rfl) (by kernel_rfl) rfl ?_
        refine Flow.pass_val (.int .i64 ((lo : Int) + (A : Int))) (Flow.met_none rfl) (fun a W hH => ?_) ?_
        · have e0 := Flow.see_new 54 7 hH.sees (by kernel_rfl) (by kernel_rfl) rfl rfl
          have e1 := Flow.see_new 55 8 hH.sees (by kernel_rfl) (by kernel_rfl) rfl rfl
          go_simp; first | done | rfl | (rw [IntWalk.i64_in _ (by omega)]; first | done | rfl | omega | (simp; done))
        refine Flow.pass_val (.pointer (some ⟨g, (lo + A), none⟩)) (Flow.met_none rfl) (fun a W hH => ?_) ?_
        · have e0 := Flow.see_new 53 6 hH.sees (by kernel_rfl) (by kernel_rfl) rfl rfl
          have e1 := Flow.see_new 56 9 hH.sees (by kernel_rfl) (by kernel_rfl) rfl rfl
          exact s_ixS (s := 1) ((lo + A)) _ rfl Tryz.underlying74 (by kernel_rfl) (by first | exact e0 | simpa [Act.eval] using e0 | (simp [Act.eval])) (by first | exact e1 | simpa [Act.eval] using e1 | (simp [Act.eval])) (by omega) (by omega) (by omega)
        refine Flow.pass_val (.int .u64 ((d1[(lo + A)]! : Nat) : Int)) (Flow.met_none rfl) (fun a W hH => ?_) ?_
        · have e0 := Flow.see_new 57 10 hH.sees (by kernel_rfl) (by kernel_rfl) rfl rfl
          have fa0 : (fun W => NR W g d1 R) W := hH.fact _ (List.mem_of_getElem? (i := 0) rfl) rfl
          have cc := nr_cell fa0 ((lo + A)) (by omega); go_simp; first | done | rfl
        refine Flow.pass_old (X := .slice (some ⟨g, 0, none⟩) n cap) 0 (Flow.met_none rfl) (.inl rfl) (by kernel_rfl) (by kernel_rfl) rfl ?_
        refine Flow.pass_old (X := .int .i64 ((x : Int))) 9 (Flow.met_none rfl) (.inl rfl) (by kernel_rfl) (by kernel_rfl) rfl ?_
        refine Flow.pass_val (.pointer (some ⟨g, x, none⟩)) (Flow.met_none rfl) (fun a W hH => ?_) ?_
        · have e0 := Flow.see_new 59 12 hH.sees (by kernel_rfl) (by kernel_rfl) rfl rfl
          have e1 := Flow.see_new 60 13 hH.sees (by kernel_rfl) (by kernel_rfl) rfl rfl
          exact s_ixS (s := 1) (x) _ rfl Tryz.underlying74 (by kernel_rfl) (by first | exact e0 | simpa [Act.eval] using e0 | (simp [Act.eval])) (by first | exact e1 | simpa [Act.eval] using e1 | (simp [Act.eval])) (by omega) (by omega) (by omega)
        refine Flow.pass_val (.int .u64 ((d1[x]! : Nat) : Int)) (Flow.met_none rfl) (fun a W hH => ?_) ?_
        · have e0 := Flow.see_new 61 14 hH.sees (by kernel_rfl) (by kernel_rfl) rfl rfl
          have fa1 : (fun W => NR W g d1 R) W := hH.fact _ (List.mem_of_getElem? (i := 1) rfl) rfl
          have cc := nr_cell fa1 (x) (by omega); go_simp; first | done | rfl
        refine Flow.pass_val (.pointer (some ⟨g, x, none⟩)) (Flow.met_none rfl) (fun a W hH => ?_) ?_
        · have e0 := Flow.see_new 47 0 hH.sees (by kernel_rfl) (by kernel_rfl) rfl rfl
          have e1 := Flow.see_new 48 1 hH.sees (by kernel_rfl) (by kernel_rfl) rfl rfl
          exact s_ixS (s := 1) (x) _ rfl Tryz.underlying74 (by kernel_rfl) (by first | exact e0 | simpa [Act.eval] using e0 | (simp [Act.eval])) (by first | exact e1 | simpa [Act.eval] using e1 | (simp [Act.eval])) (by omega) (by omega) (by omega)
        refine Flow.pass_lin [19] (fun _ W => NR W g (d1.setIfInBounds (x) (d1[(lo + A)]!)) R) (Flow.kept_lin [19] (fun _ _ _ c h => h.chg c id) (Flow.lz_cons (Flow.no_follow (by kernel_rfl)) (Flow.lz_cons (fun _ => .inl rfl) Flow.lz_nil))) (Flow.met_none rfl) (fun a W hH => ?_) ?_
        · have e0 := Flow.see_new 63 16 hH.sees (by kernel_rfl) (by kernel_rfl) rfl rfl
          have e1 := Flow.see_new 58 11 hH.sees (by kernel_rfl) (by kernel_rfl) rfl rfl
          have fa2 : (fun W => NR W g d1 R) W := hH.fact _ (List.mem_of_getElem? (i := 2) rfl) rfl
          refine s_skip (s_store rfl (by kernel_rfl) fa2 e0 e1 (nr_size (by omega))) ?_
          exact ⟨_, rfl, Chg.grown (s_grown _ _ _ _) (by rintro j h; cases h; rfl), nr_set fa2 _ (by omega) _⟩
        refine Flow.pass_val (.pointer (some ⟨g, (lo + A), none⟩)) (Flow.met_none rfl) (fun a W hH => ?_) ?_
        · have e0 := Flow.see_new 49 2 hH.sees (by kernel_rfl) (by kernel_rfl) rfl rfl
          have e1 := Flow.see_new 52 5 hH.sees (by kernel_rfl) (by kernel_rfl) rfl rfl
          exact s_ixS (s := 1) ((lo + A)) _ rfl Tryz.underlying74 (by kernel_rfl) (by first | exact e0 | simpa [Act.eval] using e0 | (simp [Act.eval])) (by first | exact e1 | simpa [Act.eval] using e1 | (simp [Act.eval])) (by omega) (by omega) (by omega)
        refine Flow.pass_gen (fun _ W => NR W g ((d1.setIfInBounds (x) (d1[(lo + A)]!)).setIfInBounds ((lo + A)) (d1[x]!)) R) (Flow.kept_of (fun _ _ _ c h => h.chg c id) (Flow.kz_cons (Flow.no_follow (by kernel_rfl)) (Flow.kz_cons (Flow.no_follow (by kernel_rfl)) Flow.kz_nil))) (Flow.met_none rfl) (fun a W hH => ?_) ?_
        · have e0 := Flow.see_new 64 18 hH.sees (by kernel_rfl) (by kernel_rfl) rfl rfl
          have e1 := Flow.see_new 62 15 hH.sees (by kernel_rfl) (by kernel_rfl) rfl rfl
          obtain ⟨_, hP⟩ := Flow.past_lin 17 hH.past (by kernel_rfl) (by kernel_rfl) rfl (by kernel_rfl)
          refine s_skip (s_store rfl (by kernel_rfl) hP e0 e1 (nr_size (by rw [Array.size_setIfInBounds]; omega))) ?_
          exact ⟨_, rfl, Chg.grown (s_grown _ _ _ _) (by rintro j h; cases h; rfl), nr_set hP _ (by rw [Array.size_setIfInBounds]; omega) _⟩
        refine Flow.pass_end [none, none, none, none, none, none, none, none, none, none, none, none, none, none, none, none, none, none, none, none, none, none, none, none, none, none, none, none, none, none, none, none, none, none, none, none, none, none, none, none, none, none, none, none, none, none, none, some 47, some 48, some 49, some 50, some 51, some 52, some 53, some 54, some 55, some 56, some 57, some 58, some 59, some 60, some 61, some 62, some 63, some 64] (by kernel_rfl) ?_
        intro f gg w9 hB hfa hT hfg
        have F3 : (fun W => Chg (OnlyG g) W3 W) w9 := hfa _ (List.mem_of_getElem? (i := 3) rfl) (Nat.le_refl _)
        have F4 : (fun W => Blk W w.heap.size 250 #[.int .u64 (z2 : Int)]) w9 := hfa _ (List.mem_of_getElem? (i := 4) rfl) (Nat.le_refl _)
        have hN_W4 : NR w9 g (Sort.swp d1 (x) (lo + A)) R := hT 19 _ (by kernel_rfl) rfl
        have hC_W4 := hC_W3.trans F3
        simp only [Reg.sel]
        obtain ⟨W4, hWW4⟩ : ∃ W, W = w9 := ⟨_, rfl⟩
        subst hWW4
        clear hT hfg hfa hB F3
        have hb4 := F4
        go_wp2
        go_roundw
        case rel => first | exact ⟨x + 1, _, z2, by omega, by omega, by go_num, Lib.hid (Sort.permIn_trans _ _ _ lo hi hP.out (Sort.swp_permIn d1 lo hi x (lo + A) (by have := HS.out; omega) (by have := HS.out; omega) (by omega) (by have := HS.out; omega) (by omega))), by rw [swp_size]; exact hn1, hN_W4, hz2, hb4, hC_W4⟩ | ((repeat apply Exists.intro); refine ⟨?_, rfl⟩; exact ⟨x + 1, _, z2, by omega, by omega, by go_num, Lib.hid (Sort.permIn_trans _ _ _ lo hi hP.out (Sort.swp_permIn d1 lo hi x (lo + A) (by have := HS.out; omega) (by have := HS.out; omega) (by omega) (by have := HS.out; omega) (by omega))), by rw [swp_size]; exact hn1, hN_W4, hz2, hb4, hC_W4⟩)
        case measure => first | (simp [intOf]; done) | (simp [intOf]; omega) | (simp only [intOf]; omega)
    · have hlti : ¬ (x : Int) ≤ (lo : Int) + (Q : Int) * 2 + 1 := by have := HS.out; omega
      go_wp2
      refine bodyPost_ret (results_none rfl _ _ _) rfl ?_
      exact ⟨rfl, d1, hP.out, hN_wr, hC_wr⟩
end Go.Proofs.YtipdmhppadapkaaGreatDoor
