/-
  Walks: reverseRangeOrdered at uint64, xorshift, bits.Len.
-/
import Derived.Test.YtjfmgoickokbjaaSrtC
namespace Go.Proofs.Ytjfmgoickokbjaa
open Go.RowKit

set_option maxRecDepth 100000 in
set_option maxHeartbeats 2000000 in
theorem reverseRange_walk (g : Nat) (R : List Value) (d : Array Nat) (n cap lo hi : Nat) (hn : d.size = n) (hlo : lo < hi) (hhi : hi ≤ n) (hn5 : n ≤ 1000000) (w : World) (hN : NR w g d R) :
    Calls Try.prog 75 #[.slice (some ⟨g, 0, none⟩) n cap, .int .i64 (lo : Int), .int .i64 (hi : Int)] w (SRet w g R fun d' => Sort.PermIn lo hi d d') := by
  have hw1 : IntKind.i64.wrap ((hi : Int) - 1) = ((hi - 1 : Nat) : Int) := by rw [IntWalk.i64_in _ (by omega)]; omega
  go_enter Try.func75, Try.ntmps75
  go_wp2
  go_loopw [6, 7] (fun i j wr => ∃ (x y : Nat) (d1 : Array Nat), lo ≤ x ∧ y < hi ∧ i = .int .i64 (x : Int) ∧ j = .int .i64 (y : Int) ∧ Hid (Sort.PermIn lo hi d d1) ∧ d1.size = n ∧ NR wr g d1 R ∧ Chg (OnlyG g) w wr) (fun i j _ => (intOf j - intOf i).toNat)
  case atStart => exact ⟨lo, hi - 1, d, Nat.le_refl _, by omega, rfl, rfl, Lib.hid (Sort.permIn_refl d lo hi), hn, hN, Chg.refl _ _⟩
  case round =>
    obtain ⟨x, y, d1, hx, hy, rfl, rfl, hP, hn1, hN_wr, hC_wr⟩ := hrel
    by_cases hlt : x < y
    · have hlti : (x : Int) < (y : Int) := by omega
      have hxw : IntKind.i64.wrap ((x : Int) + 1) = ((x + 1 : Nat) : Int) := by rw [IntWalk.i64_in _ (by omega)]; omega
      have hyw : IntKind.i64.wrap ((y : Int) - 1) = ((y - 1 : Nat) : Int) := by rw [IntWalk.i64_in _ (by omega)]; omega
      go_upto_region 3 with (fail)
      refine Flow.wp_region_flow (g) [(13, fun b => b = g), (15, fun b => b = g)] [(7, fun W => NR W g d1 R), (11, fun W => NR W g d1 R), (13, fun W => NR W g d1 R), (16, fun W => Chg (OnlyG g) wr W)] (by kernel_rfl) (by kernel_rfl) (Nat.le_of_lt hN_wr.lt) (Flow.nz_cons (by rintro b rfl; exact Nat.le_refl _) (Flow.nz_cons (by rintro b rfl; exact Nat.le_refl _) Flow.nz_nil)) (Flow.facts_cons (hN_wr.drew) (Flow.kept_blk id) (Flow.fz_cons (Flow.no_follow (by kernel_rfl)) (Flow.fz_cons (Flow.no_follow (by kernel_rfl)) Flow.fz_nil)) (Flow.facts_cons (hN_wr.drew) (Flow.kept_blk id) (Flow.fz_cons (Flow.no_follow (by kernel_rfl)) (Flow.fz_cons (Flow.no_follow (by kernel_rfl)) Flow.fz_nil)) (Flow.facts_cons (hN_wr.drew) (Flow.kept_blk id) (Flow.fz_cons (Flow.no_follow (by kernel_rfl)) (Flow.fz_cons (Flow.no_follow (by kernel_rfl)) Flow.fz_nil)) (Flow.facts_cons ((Chg.refl _ _).drew) (fun _ _ c h => onlyg_trans h c (by first | exact fun _ hj => hj | exact fun _ hj => hj.elim)) (Flow.fz_cons (fun _ => fun _ _ c h => onlyg_trans h c (by first | exact fun _ hj => hj | exact fun _ hj => hj.elim)) (Flow.fz_cons (fun _ => fun _ _ c h => onlyg_trans h c (by first | exact fun _ hj => hj | exact fun _ hj => hj.elim)) Flow.fz_nil)) Flow.facts_nil)))) ?_
      refine Flow.pass_old (X := .slice (some ⟨g, 0, none⟩) n cap) 0 (Flow.met_none rfl) (.inl rfl) (by kernel_rfl) (by kernel_rfl) rfl ?_
      refine Flow.pass_old (X := .int .i64 ((x : Int))) 6 (Flow.met_none rfl) (.inl rfl) (by kernel_rfl) (by kernel_rfl) rfl ?_
      refine Flow.pass_old (X := .slice (some ⟨g, 0, none⟩) n cap) 0 (Flow.met_none rfl) (.inl rfl) (by kernel_rfl) (by kernel_rfl) rfl ?_
      refine Flow.pass_old (X := .int .i64 ((y : Int))) 7 (Flow.met_none rfl) (.inl rfl) (by kernel_rfl) (by kernel_rfl) rfl ?_
      refine Flow.pass_old (X := .slice (some ⟨g, 0, none⟩) n cap) 0 (Flow.met_none rfl) (.inl rfl) (by kernel_rfl) (by kernel_rfl) rfl ?_
      refine Flow.pass_old (X := .int .i64 ((y : Int))) 7 (Flow.met_none rfl) (.inl rfl) (by kernel_rfl) (by kernel_rfl) rfl ?_
      refine Flow.pass_val (.pointer (some ⟨g, y, none⟩)) (Flow.met_none rfl) (fun a W hH => ?_) ?_
      · have e0 := Flow.see_new 18 4 hH.sees (by kernel_rfl) (by kernel_rfl) rfl rfl
        have e1 := Flow.see_new 19 5 hH.sees (by kernel_rfl) (by kernel_rfl) rfl rfl
        exact s_ixS (s := 1) (y) _ rfl Try.underlying72 (by kernel_rfl) (by first | exact e0 | simpa [Act.eval] using e0 | (simp [Act.eval])) (by first | exact e1 | simpa [Act.eval] using e1 | (simp [Act.eval])) (by omega) (by omega) (by omega)
      refine Flow.pass_val (.int .u64 ((d1[y]! : Nat) : Int)) (Flow.met_none rfl) (fun a W hH => ?_) ?_
      · have e0 := Flow.see_new 20 6 hH.sees (by kernel_rfl) (by kernel_rfl) rfl rfl
        have fa0 : (fun W => NR W g d1 R) W := hH.fact _ (List.mem_of_getElem? (i := 0) rfl) rfl
        have cc := nr_cell fa0 (y) (by omega); go_simp; first | done | rfl
      refine Flow.pass_old (X := .slice (some ⟨g, 0, none⟩) n cap) 0 (Flow.met_none rfl) (.inl rfl) (by kernel_rfl) (by kernel_rfl) rfl ?_
      refine Flow.pass_old (X := .int .i64 ((x : Int))) 6 (Flow.met_none rfl) (.inl rfl) (by kernel_rfl) (by kernel_rfl) rfl ?_
      refine Flow.pass_val (.pointer (some ⟨g, x, none⟩)) (Flow.met_none rfl) (fun a W hH => ?_) ?_
      · have e0 := Flow.see_new 22 8 hH.sees (by kernel_rfl) (by kernel_rfl) rfl rfl
        have e1 := Flow.see_new 23 9 hH.sees (by kernel_rfl) (by kernel_rfl) rfl rfl
        exact s_ixS (s := 1) (x) _ rfl Try.underlying72 (by kernel_rfl) (by first | exact e0 | simpa [Act.eval] using e0 | (simp [Act.eval])) (by first | exact e1 | simpa [Act.eval] using e1 | (simp [Act.eval])) (by omega) (by omega) (by omega)
      refine Flow.pass_val (.int .u64 ((d1[x]! : Nat) : Int)) (Flow.met_none rfl) (fun a W hH => ?_) ?_
      · have e0 := Flow.see_new 24 10 hH.sees (by kernel_rfl) (by kernel_rfl) rfl rfl
        have fa1 : (fun W => NR W g d1 R) W := hH.fact _ (List.mem_of_getElem? (i := 1) rfl) rfl
        have cc := nr_cell fa1 (x) (by omega); go_simp; first | done | rfl
      refine Flow.pass_val (.pointer (some ⟨g, x, none⟩)) (Flow.met_none rfl) (fun a W hH => ?_) ?_
      · have e0 := Flow.see_new 14 0 hH.sees (by kernel_rfl) (by kernel_rfl) rfl rfl
        have e1 := Flow.see_new 15 1 hH.sees (by kernel_rfl) (by kernel_rfl) rfl rfl
        exact s_ixS (s := 1) (x) _ rfl Try.underlying72 (by kernel_rfl) (by first | exact e0 | simpa [Act.eval] using e0 | (simp [Act.eval])) (by first | exact e1 | simpa [Act.eval] using e1 | (simp [Act.eval])) (by omega) (by omega) (by omega)
      refine Flow.pass_lin [15] (fun _ W => NR W g (d1.setIfInBounds (x) (d1[y]!)) R) (Flow.kept_lin [15] (fun _ _ _ c h => h.chg c id) (Flow.lz_cons (Flow.no_follow (by kernel_rfl)) (Flow.lz_cons (fun _ => .inl rfl) Flow.lz_nil))) (Flow.met_none rfl) (fun a W hH => ?_) ?_
      · have e0 := Flow.see_new 26 12 hH.sees (by kernel_rfl) (by kernel_rfl) rfl rfl
        have e1 := Flow.see_new 21 7 hH.sees (by kernel_rfl) (by kernel_rfl) rfl rfl
        have fa2 : (fun W => NR W g d1 R) W := hH.fact _ (List.mem_of_getElem? (i := 2) rfl) rfl
        refine s_skip (s_store rfl (by kernel_rfl) fa2 e0 e1 (nr_size (by omega))) ?_
        exact ⟨_, rfl, Chg.grown (s_grown _ _ _ _) (by rintro j h; cases h; rfl), nr_set fa2 _ (by omega) _⟩
      refine Flow.pass_val (.pointer (some ⟨g, y, none⟩)) (Flow.met_none rfl) (fun a W hH => ?_) ?_
      · have e0 := Flow.see_new 16 2 hH.sees (by kernel_rfl) (by kernel_rfl) rfl rfl
        have e1 := Flow.see_new 17 3 hH.sees (by kernel_rfl) (by kernel_rfl) rfl rfl
        exact s_ixS (s := 1) (y) _ rfl Try.underlying72 (by kernel_rfl) (by first | exact e0 | simpa [Act.eval] using e0 | (simp [Act.eval])) (by first | exact e1 | simpa [Act.eval] using e1 | (simp [Act.eval])) (by omega) (by omega) (by omega)
      refine Flow.pass_gen (fun _ W => NR W g ((d1.setIfInBounds (x) (d1[y]!)).setIfInBounds (y) (d1[x]!)) R) (Flow.kept_of (fun _ _ _ c h => h.chg c id) (Flow.kz_cons (Flow.no_follow (by kernel_rfl)) (Flow.kz_cons (Flow.no_follow (by kernel_rfl)) Flow.kz_nil))) (Flow.met_none rfl) (fun a W hH => ?_) ?_
      · have e0 := Flow.see_new 27 14 hH.sees (by kernel_rfl) (by kernel_rfl) rfl rfl
        have e1 := Flow.see_new 25 11 hH.sees (by kernel_rfl) (by kernel_rfl) rfl rfl
        obtain ⟨_, hP⟩ := Flow.past_lin 13 hH.past (by kernel_rfl) (by kernel_rfl) rfl (by kernel_rfl)
        refine s_skip (s_store rfl (by kernel_rfl) hP e0 e1 (nr_size (by rw [Array.size_setIfInBounds]; omega))) ?_
        exact ⟨_, rfl, Chg.grown (s_grown _ _ _ _) (by rintro j h; cases h; rfl), nr_set hP _ (by rw [Array.size_setIfInBounds]; omega) _⟩
      refine Flow.pass_end [none, none, none, none, none, none, none, none, none, none, none, none, none, none, some 14, some 15, some 16, some 17, some 18, some 19, some 20, some 21, some 22, some 23, some 24, some 25, some 26, some 27, none, none, none, none] (by kernel_rfl) ?_
      intro f gg w9 hB hfa hT hfg
      have F3 : (fun W => Chg (OnlyG g) wr W) w9 := hfa _ (List.mem_of_getElem? (i := 3) rfl) (Nat.le_refl _)
      have hN_W5 : NR w9 g (Sort.swp d1 (x) (y)) R := hT 15 _ (by kernel_rfl) rfl
      have hC_W5 := hC_wr.trans F3
      simp only [Reg.sel]
      obtain ⟨W5, hWW5⟩ : ∃ W, W = w9 := ⟨_, rfl⟩
      subst hWW5
      clear hT hfg hfa hB F3
      go_wp2
      go_roundw
      case rel => first | exact ⟨x + 1, y - 1, _, by omega, by omega, rfl, rfl, Lib.hid (Sort.permIn_trans _ _ _ lo hi hP.out (Sort.swp_permIn d1 lo hi x y hx (by omega) (by omega) hy (by omega))), by rw [swp_size]; exact hn1, hN_W5, hC_W5⟩ | ((repeat apply Exists.intro); refine ⟨?_, rfl⟩; exact ⟨x + 1, y - 1, _, by omega, by omega, rfl, rfl, Lib.hid (Sort.permIn_trans _ _ _ lo hi hP.out (Sort.swp_permIn d1 lo hi x y hx (by omega) (by omega) hy (by omega))), by rw [swp_size]; exact hn1, hN_W5, hC_W5⟩)
      case measure => first | (simp [intOf]; done) | (simp [intOf]; omega) | (simp only [intOf]; omega)
    · have hlti : ¬ (x : Int) < (y : Int) := by omega
      go_wp2
      refine bodyPost_ret (results_none rfl _ _ _) rfl ?_
      exact ⟨rfl, d1, hP.out, hN_wr, hC_wr⟩
theorem u64_xor_ex (x y : Nat) (hx : x < 18446744073709551616) (hy : y < 18446744073709551616) : ∃ z : Nat, z < 18446744073709551616 ∧ bits .xor .u64 (x : Int) (y : Int) = ((z : Nat) : Int) := by
  refine ⟨x ^^^ y, ?_, u64_xor_nat x y hx hy⟩
  exact Nat.xor_lt_two_pow (n := 64) hx hy
theorem u64_wrap_ex (x : Int) : ∃ z : Nat, z < 18446744073709551616 ∧ IntKind.u64.wrap x = ((z : Nat) : Int) := by
  rw [IntKind.wrap_u64]
  exact ⟨(x % 18446744073709551616).toNat, by omega, by omega⟩
set_option maxRecDepth 100000 in
set_option maxHeartbeats 2000000 in
theorem xorNext_walk (rb x0 : Nat) (hx0 : x0 < 18446744073709551616) (w : World) (hb : Blk w rb 133 #[.int .u64 ((x0 : Nat) : Int)]) :
    Calls Try.prog 84 #[.pointer (some ⟨rb, 0, none⟩)] w fun e w' => ∃ z : Nat, z < 18446744073709551616 ∧ e = .returned (.int .u64 (z : Int)) ∧ Blk w' rb 133 #[.int .u64 ((z : Nat) : Int)] ∧ Chg (OnlyG rb) w w' := by
  obtain ⟨s1, hs1l, hs1⟩ := u64_wrap_ex ((x0 : Int) * 8192)
  obtain ⟨y1, hy1l, hxy1⟩ := u64_xor_ex x0 s1 hx0 hs1l
  obtain ⟨s2, hs2l, hs2⟩ : ∃ s : Nat, s < 18446744073709551616 ∧ (y1 : Int) / 128 = ((s : Nat) : Int) := ⟨y1 / 128, by omega, by omega⟩
  obtain ⟨y2, hy2l, hxy2⟩ := u64_xor_ex y1 s2 hy1l hs2l
  obtain ⟨s3, hs3l, hs3⟩ := u64_wrap_ex ((y2 : Int) * 131072)
  obtain ⟨y3, hy3l, hxy3⟩ := u64_xor_ex y2 s3 hy2l hs3l
  go_enter Try.func84, Try.ntmps84
  go_upto_region 1 with (fail)
  refine Flow.wp_region_flow (rb) [(9, fun b => b = rb)] [(2, fun W => Blk W rb 133 #[.int .u64 ((x0 : Nat) : Int)]), (5, fun W => Blk W rb 133 #[.int .u64 ((x0 : Nat) : Int)]), (9, fun W => Blk W rb 133 #[.int .u64 ((x0 : Nat) : Int)]), (10, fun W => Chg (OnlyG rb) w W)] (by kernel_rfl) (by kernel_rfl) (Nat.le_of_lt hb.lt) (Flow.nz_cons (by rintro b rfl; exact Nat.le_refl _) Flow.nz_nil) (Flow.facts_cons (hb.drew) (Flow.kept_blk id) (Flow.fz_cons (Flow.no_follow (by kernel_rfl)) Flow.fz_nil) (Flow.facts_cons (hb.drew) (Flow.kept_blk id) (Flow.fz_cons (Flow.no_follow (by kernel_rfl)) Flow.fz_nil) (Flow.facts_cons (hb.drew) (Flow.kept_blk id) (Flow.fz_cons (Flow.no_follow (by kernel_rfl)) Flow.fz_nil) (Flow.facts_cons ((Chg.refl _ _).drew) (fun _ _ c h => onlyg_trans h c (by first | exact fun _ hj => hj | exact fun _ hj => hj.elim)) (Flow.fz_cons (fun _ => fun _ _ c h => onlyg_trans h c (by first | exact fun _ hj => hj | exact fun _ hj => hj.elim)) Flow.fz_nil) Flow.facts_nil)))) ?_
  refine Flow.pass_old (X := .pointer (some ⟨rb, 0, none⟩)) 0 (Flow.met_none rfl) (.inl rfl) (by kernel_rfl) (by kernel_rfl) rfl ?_
  refine Flow.pass_val (.pointer (some ⟨rb, 0, none⟩)) (Flow.met_none rfl) (fun a W hH => ?_) ?_
  · have e0 := Flow.see_new 3 0 hH.sees (by kernel_rfl) (by kernel_rfl) rfl rfl
    go_simp; first | done | rfl
  refine Flow.pass_val (.int .u64 ((x0 : Nat) : Int)) (Flow.met_none rfl) (fun a W hH => ?_) ?_
  · have e0 := Flow.see_new 4 1 hH.sees (by kernel_rfl) (by kernel_rfl) rfl rfl
    have fa0 : (fun W => Blk W rb 133 #[.int .u64 ((x0 : Nat) : Int)]) W := hH.fact _ (List.mem_of_getElem? (i := 0) rfl) rfl
    have cc : World.cell? W ⟨rb, 0, none⟩ = some (.int .u64 ((x0 : Nat) : Int)) := (Blk.cell fa0 0).trans rfl; go_simp; first | done | rfl
  refine Flow.pass_old (X := .pointer (some ⟨rb, 0, none⟩)) 0 (Flow.met_none rfl) (.inl rfl) (by kernel_rfl) (by kernel_rfl) rfl ?_
  refine Flow.pass_val (.pointer (some ⟨rb, 0, none⟩)) (Flow.met_none rfl) (fun a W hH => ?_) ?_
  · have e0 := Flow.see_new 6 3 hH.sees (by kernel_rfl) (by kernel_rfl) rfl rfl
    go_simp; first | done | rfl
  refine Flow.pass_val (.int .u64 ((x0 : Nat) : Int)) (Flow.met_none rfl) (fun a W hH => ?_) ?_
  · have e0 := Flow.see_new 7 4 hH.sees (by kernel_rfl) (by kernel_rfl) rfl rfl
    have fa1 : (fun W => Blk W rb 133 #[.int .u64 ((x0 : Nat) : Int)]) W := hH.fact _ (List.mem_of_getElem? (i := 1) rfl) rfl
    have cc : World.cell? W ⟨rb, 0, none⟩ = some (.int .u64 ((x0 : Nat) : Int)) := (Blk.cell fa1 0).trans rfl; go_simp; first | done | rfl
  refine Flow.pass_val (.int .u64 ((s1 : Nat) : Int)) (Flow.met_none rfl) (fun a W hH => ?_) ?_
  · have e0 := Flow.see_new 8 5 hH.sees (by kernel_rfl) (by kernel_rfl) rfl rfl
    have hq := hs1; go_simp; first | done | rfl
  refine Flow.pass_val (.int .u64 ((y1 : Nat) : Int)) (Flow.met_none rfl) (fun a W hH => ?_) ?_
  · have e0 := Flow.see_new 5 2 hH.sees (by kernel_rfl) (by kernel_rfl) rfl rfl
    have e1 := Flow.see_new 9 6 hH.sees (by kernel_rfl) (by kernel_rfl) rfl rfl
    have hq := hxy1; go_simp; first | done | rfl
  refine Flow.pass_val (.pointer (some ⟨rb, 0, none⟩)) (Flow.met_none rfl) (fun a W hH => ?_) ?_
  · have e0 := Flow.see_new 3 0 hH.sees (by kernel_rfl) (by kernel_rfl) rfl rfl
    go_simp; first | done | rfl
  refine Flow.pass_gen (fun _ W => Blk W rb 133 #[.int .u64 ((y1 : Nat) : Int)]) (Flow.kept_of (fun _ _ _ c h => h.chg c id) (Flow.kz_cons (Flow.no_follow (by kernel_rfl)) Flow.kz_nil)) (Flow.met_none rfl) (fun a W hH => ?_) ?_
  · have e0 := Flow.see_new 11 8 hH.sees (by kernel_rfl) (by kernel_rfl) rfl rfl
    have e1 := Flow.see_new 10 7 hH.sees (by kernel_rfl) (by kernel_rfl) rfl rfl
    have fa2 : (fun W => Blk W rb 133 #[.int .u64 ((x0 : Nat) : Int)]) W := hH.fact _ (List.mem_of_getElem? (i := 2) rfl) rfl
    refine s_skip (s_store rfl (by kernel_rfl) fa2 e0 e1 (by simp)) ?_
    exact ⟨_, rfl, Chg.grown (s_grown _ _ _ _) (by rintro j h; cases h; rfl), Blk.set_ fa2 0 _⟩
  refine Flow.pass_end [none, none, none, some 3, some 4, some 5, some 6, some 7, some 8, some 9, some 10, some 11, none, none, none, none, none, none, none, none, none, none, none, none, none, none, none, none, none, none, none, none, none] (by kernel_rfl) ?_
  intro f gg w9 hB hfa hT hfg
  have F3 : (fun W => Chg (OnlyG rb) w W) w9 := hfa _ (List.mem_of_getElem? (i := 3) rfl) (Nat.le_refl _)
  have hb1 : Blk w9 rb 133 #[.int .u64 ((y1 : Nat) : Int)] := hT 9 _ (by kernel_rfl) rfl
  have hC1 := F3
  simp only [Reg.sel]
  obtain ⟨W1, hW1⟩ : ∃ W, W = w9 := ⟨_, rfl⟩
  subst hW1
  clear hT hfg hfa hB F3 hb
  go_upto_region 2 with (fail)
  refine Flow.wp_region_flow (rb) [(9, fun b => b = rb)] [(2, fun W => Blk W rb 133 #[.int .u64 ((y1 : Nat) : Int)]), (5, fun W => Blk W rb 133 #[.int .u64 ((y1 : Nat) : Int)]), (9, fun W => Blk W rb 133 #[.int .u64 ((y1 : Nat) : Int)]), (10, fun W => Chg (OnlyG rb) W1 W)] (by kernel_rfl) (by kernel_rfl) (Nat.le_of_lt hb1.lt) (Flow.nz_cons (by rintro b rfl; exact Nat.le_refl _) Flow.nz_nil) (Flow.facts_cons (hb1.drew) (Flow.kept_blk id) (Flow.fz_cons (Flow.no_follow (by kernel_rfl)) Flow.fz_nil) (Flow.facts_cons (hb1.drew) (Flow.kept_blk id) (Flow.fz_cons (Flow.no_follow (by kernel_rfl)) Flow.fz_nil) (Flow.facts_cons (hb1.drew) (Flow.kept_blk id) (Flow.fz_cons (Flow.no_follow (by kernel_rfl)) Flow.fz_nil) (Flow.facts_cons ((Chg.refl _ _).drew) (fun _ _ c h => onlyg_trans h c (by first | exact fun _ hj => hj | exact fun _ hj => hj.elim)) (Flow.fz_cons (fun _ => fun _ _ c h => onlyg_trans h c (by first | exact fun _ hj => hj | exact fun _ hj => hj.elim)) Flow.fz_nil) Flow.facts_nil)))) ?_
  refine Flow.pass_old (X := .pointer (some ⟨rb, 0, none⟩)) 0 (Flow.met_none rfl) (.inl rfl) (by kernel_rfl) (by kernel_rfl) rfl ?_
  refine Flow.pass_val (.pointer (some ⟨rb, 0, none⟩)) (Flow.met_none rfl) (fun a W hH => ?_) ?_
  · have e0 := Flow.see_new 12 0 hH.sees (by kernel_rfl) (by kernel_rfl) rfl rfl
    go_simp; first | done | rfl
  refine Flow.pass_val (.int .u64 ((y1 : Nat) : Int)) (Flow.met_none rfl) (fun a W hH => ?_) ?_
  · have e0 := Flow.see_new 13 1 hH.sees (by kernel_rfl) (by kernel_rfl) rfl rfl
    have fa0 : (fun W => Blk W rb 133 #[.int .u64 ((y1 : Nat) : Int)]) W := hH.fact _ (List.mem_of_getElem? (i := 0) rfl) rfl
    have cc : World.cell? W ⟨rb, 0, none⟩ = some (.int .u64 ((y1 : Nat) : Int)) := (Blk.cell fa0 0).trans rfl; go_simp; first | done | rfl
  refine Flow.pass_old (X := .pointer (some ⟨rb, 0, none⟩)) 0 (Flow.met_none rfl) (.inl rfl) (by kernel_rfl) (by kernel_rfl) rfl ?_
  refine Flow.pass_val (.pointer (some ⟨rb, 0, none⟩)) (Flow.met_none rfl) (fun a W hH => ?_) ?_
  · have e0 := Flow.see_new 15 3 hH.sees (by kernel_rfl) (by kernel_rfl) rfl rfl
    go_simp; first | done | rfl
  refine Flow.pass_val (.int .u64 ((y1 : Nat) : Int)) (Flow.met_none rfl) (fun a W hH => ?_) ?_
  · have e0 := Flow.see_new 16 4 hH.sees (by kernel_rfl) (by kernel_rfl) rfl rfl
    have fa1 : (fun W => Blk W rb 133 #[.int .u64 ((y1 : Nat) : Int)]) W := hH.fact _ (List.mem_of_getElem? (i := 1) rfl) rfl
    have cc : World.cell? W ⟨rb, 0, none⟩ = some (.int .u64 ((y1 : Nat) : Int)) := (Blk.cell fa1 0).trans rfl; go_simp; first | done | rfl
  refine Flow.pass_val (.int .u64 ((s2 : Nat) : Int)) (Flow.met_none rfl) (fun a W hH => ?_) ?_
  · have e0 := Flow.see_new 17 5 hH.sees (by kernel_rfl) (by kernel_rfl) rfl rfl
    have hq := hs2; go_simp; first | done | rfl
  refine Flow.pass_val (.int .u64 ((y2 : Nat) : Int)) (Flow.met_none rfl) (fun a W hH => ?_) ?_
  · have e0 := Flow.see_new 14 2 hH.sees (by kernel_rfl) (by kernel_rfl) rfl rfl
    have e1 := Flow.see_new 18 6 hH.sees (by kernel_rfl) (by kernel_rfl) rfl rfl
    have hq := hxy2; go_simp; first | done | rfl
  refine Flow.pass_val (.pointer (some ⟨rb, 0, none⟩)) (Flow.met_none rfl) (fun a W hH => ?_) ?_
  · have e0 := Flow.see_new 12 0 hH.sees (by kernel_rfl) (by kernel_rfl) rfl rfl
    go_simp; first | done | rfl
  refine Flow.pass_gen (fun _ W => Blk W rb 133 #[.int .u64 ((y2 : Nat) : Int)]) (Flow.kept_of (fun _ _ _ c h => h.chg c id) (Flow.kz_cons (Flow.no_follow (by kernel_rfl)) Flow.kz_nil)) (Flow.met_none rfl) (fun a W hH => ?_) ?_
  · have e0 := Flow.see_new 20 8 hH.sees (by kernel_rfl) (by kernel_rfl) rfl rfl
    have e1 := Flow.see_new 19 7 hH.sees (by kernel_rfl) (by kernel_rfl) rfl rfl
    have fa2 : (fun W => Blk W rb 133 #[.int .u64 ((y1 : Nat) : Int)]) W := hH.fact _ (List.mem_of_getElem? (i := 2) rfl) rfl
    refine s_skip (s_store rfl (by kernel_rfl) fa2 e0 e1 (by simp)) ?_
    exact ⟨_, rfl, Chg.grown (s_grown _ _ _ _) (by rintro j h; cases h; rfl), Blk.set_ fa2 0 _⟩
  refine Flow.pass_end [none, none, none, none, none, none, none, none, none, none, none, none, some 12, some 13, some 14, some 15, some 16, some 17, some 18, some 19, some 20, none, none, none, none, none, none, none, none, none, none, none, none] (by kernel_rfl) ?_
  intro f gg w9 hB hfa hT hfg
  have F3 : (fun W => Chg (OnlyG rb) W1 W) w9 := hfa _ (List.mem_of_getElem? (i := 3) rfl) (Nat.le_refl _)
  have hb2 : Blk w9 rb 133 #[.int .u64 ((y2 : Nat) : Int)] := hT 9 _ (by kernel_rfl) rfl
  have hC2 := hC1.trans F3
  simp only [Reg.sel]
  obtain ⟨W2, hW2⟩ : ∃ W, W = w9 := ⟨_, rfl⟩
  subst hW2
  clear hT hfg hfa hB F3 hb1
  go_upto_region 3 with (fail)
  refine Flow.wp_region_flow (rb) [(9, fun b => b = rb)] [(2, fun W => Blk W rb 133 #[.int .u64 ((y2 : Nat) : Int)]), (5, fun W => Blk W rb 133 #[.int .u64 ((y2 : Nat) : Int)]), (9, fun W => Blk W rb 133 #[.int .u64 ((y2 : Nat) : Int)]), (10, fun W => Chg (OnlyG rb) W2 W)] (by kernel_rfl) (by kernel_rfl) (Nat.le_of_lt hb2.lt) (Flow.nz_cons (by rintro b rfl; exact Nat.le_refl _) Flow.nz_nil) (Flow.facts_cons (hb2.drew) (Flow.kept_blk id) (Flow.fz_cons (Flow.no_follow (by kernel_rfl)) Flow.fz_nil) (Flow.facts_cons (hb2.drew) (Flow.kept_blk id) (Flow.fz_cons (Flow.no_follow (by kernel_rfl)) Flow.fz_nil) (Flow.facts_cons (hb2.drew) (Flow.kept_blk id) (Flow.fz_cons (Flow.no_follow (by kernel_rfl)) Flow.fz_nil) (Flow.facts_cons ((Chg.refl _ _).drew) (fun _ _ c h => onlyg_trans h c (by first | exact fun _ hj => hj | exact fun _ hj => hj.elim)) (Flow.fz_cons (fun _ => fun _ _ c h => onlyg_trans h c (by first | exact fun _ hj => hj | exact fun _ hj => hj.elim)) Flow.fz_nil) Flow.facts_nil)))) ?_
  refine Flow.pass_old (X := .pointer (some ⟨rb, 0, none⟩)) 0 (Flow.met_none rfl) (.inl rfl) (by kernel_rfl) (by kernel_rfl) rfl ?_
  refine Flow.pass_val (.pointer (some ⟨rb, 0, none⟩)) (Flow.met_none rfl) (fun a W hH => ?_) ?_
  · have e0 := Flow.see_new 21 0 hH.sees (by kernel_rfl) (by kernel_rfl) rfl rfl
    go_simp; first | done | rfl
  refine Flow.pass_val (.int .u64 ((y2 : Nat) : Int)) (Flow.met_none rfl) (fun a W hH => ?_) ?_
  · have e0 := Flow.see_new 22 1 hH.sees (by kernel_rfl) (by kernel_rfl) rfl rfl
    have fa0 : (fun W => Blk W rb 133 #[.int .u64 ((y2 : Nat) : Int)]) W := hH.fact _ (List.mem_of_getElem? (i := 0) rfl) rfl
    have cc : World.cell? W ⟨rb, 0, none⟩ = some (.int .u64 ((y2 : Nat) : Int)) := (Blk.cell fa0 0).trans rfl; go_simp; first | done | rfl
  refine Flow.pass_old (X := .pointer (some ⟨rb, 0, none⟩)) 0 (Flow.met_none rfl) (.inl rfl) (by kernel_rfl) (by kernel_rfl) rfl ?_
  refine Flow.pass_val (.pointer (some ⟨rb, 0, none⟩)) (Flow.met_none rfl) (fun a W hH => ?_) ?_
  · have e0 := Flow.see_new 24 3 hH.sees (by kernel_rfl) (by kernel_rfl) rfl rfl
    go_simp; first | done | rfl
  refine Flow.pass_val (.int .u64 ((y2 : Nat) : Int)) (Flow.met_none rfl) (fun a W hH => ?_) ?_
  · have e0 := Flow.see_new 25 4 hH.sees (by kernel_rfl) (by kernel_rfl) rfl rfl
    have fa1 : (fun W => Blk W rb 133 #[.int .u64 ((y2 : Nat) : Int)]) W := hH.fact _ (List.mem_of_getElem? (i := 1) rfl) rfl
    have cc : World.cell? W ⟨rb, 0, none⟩ = some (.int .u64 ((y2 : Nat) : Int)) := (Blk.cell fa1 0).trans rfl; go_simp; first | done | rfl
  refine Flow.pass_val (.int .u64 ((s3 : Nat) : Int)) (Flow.met_none rfl) (fun a W hH => ?_) ?_
  · have e0 := Flow.see_new 26 5 hH.sees (by kernel_rfl) (by kernel_rfl) rfl rfl
    have hq := hs3; go_simp; first | done | rfl
  refine Flow.pass_val (.int .u64 ((y3 : Nat) : Int)) (Flow.met_none rfl) (fun a W hH => ?_) ?_
  · have e0 := Flow.see_new 23 2 hH.sees (by kernel_rfl) (by kernel_rfl) rfl rfl
    have e1 := Flow.see_new 27 6 hH.sees (by kernel_rfl) (by kernel_rfl) rfl rfl
    have hq := hxy3; go_simp; first | done | rfl
  refine Flow.pass_val (.pointer (some ⟨rb, 0, none⟩)) (Flow.met_none rfl) (fun a W hH => ?_) ?_
  · have e0 := Flow.see_new 21 0 hH.sees (by kernel_rfl) (by kernel_rfl) rfl rfl
    go_simp; first | done | rfl
  refine Flow.pass_gen (fun _ W => Blk W rb 133 #[.int .u64 ((y3 : Nat) : Int)]) (Flow.kept_of (fun _ _ _ c h => h.chg c id) (Flow.kz_cons (Flow.no_follow (by kernel_rfl)) Flow.kz_nil)) (Flow.met_none rfl) (fun a W hH => ?_) ?_
  · have e0 := Flow.see_new 29 8 hH.sees (by kernel_rfl) (by kernel_rfl) rfl rfl
    have e1 := Flow.see_new 28 7 hH.sees (by kernel_rfl) (by kernel_rfl) rfl rfl
    have fa2 : (fun W => Blk W rb 133 #[.int .u64 ((y2 : Nat) : Int)]) W := hH.fact _ (List.mem_of_getElem? (i := 2) rfl) rfl
    refine s_skip (s_store rfl (by kernel_rfl) fa2 e0 e1 (by simp)) ?_
    exact ⟨_, rfl, Chg.grown (s_grown _ _ _ _) (by rintro j h; cases h; rfl), Blk.set_ fa2 0 _⟩
  refine Flow.pass_end [none, none, none, none, none, none, none, none, none, none, none, none, none, none, none, none, none, none, none, none, none, some 21, some 22, some 23, some 24, some 25, some 26, some 27, some 28, some 29, none, none, none] (by kernel_rfl) ?_
  intro f gg w9 hB hfa hT hfg
  have F3 : (fun W => Chg (OnlyG rb) W2 W) w9 := hfa _ (List.mem_of_getElem? (i := 3) rfl) (Nat.le_refl _)
  have hb3 : Blk w9 rb 133 #[.int .u64 ((y3 : Nat) : Int)] := hT 9 _ (by kernel_rfl) rfl
  have hC3 := hC2.trans F3
  simp only [Reg.sel]
  obtain ⟨W3, hW3⟩ : ∃ W, W = w9 := ⟨_, rfl⟩
  subst hW3
  clear hT hfg hfa hB F3 hb2
  have cc : World.cell? W3 ⟨rb, 0, none⟩ = some (.int .u64 ((y3 : Nat) : Int)) := (Blk.cell hb3 0).trans rfl
  go_wp2
  go_ret
  exact ⟨y3, hy3l, rfl, hb3, hC3⟩
def len8 : Array UInt8 := #[0, 1, 2, 2, 3, 3, 3, 3, 4, 4, 4, 4, 4, 4, 4, 4, 5, 5, 5, 5, 5, 5, 5, 5, 5, 5, 5, 5, 5, 5, 5, 5, 6, 6, 6, 6, 6, 6, 6, 6, 6, 6, 6, 6, 6, 6, 6, 6, 6, 6, 6, 6, 6, 6, 6, 6, 6, 6, 6, 6, 6, 6, 6, 6, 7, 7, 7, 7, 7, 7, 7, 7, 7, 7, 7, 7, 7, 7, 7, 7, 7, 7, 7, 7, 7, 7, 7, 7, 7, 7, 7, 7, 7, 7, 7, 7, 7, 7, 7, 7, 7, 7, 7, 7, 7, 7, 7, 7, 7, 7, 7, 7, 7, 7, 7, 7, 7, 7, 7, 7, 7, 7, 7, 7, 7, 7, 7, 7, 8, 8, 8, 8, 8, 8, 8, 8, 8, 8, 8, 8, 8, 8, 8, 8, 8, 8, 8, 8, 8, 8, 8, 8, 8, 8, 8, 8, 8, 8, 8, 8, 8, 8, 8, 8, 8, 8, 8, 8, 8, 8, 8, 8, 8, 8, 8, 8, 8, 8, 8, 8, 8, 8, 8, 8, 8, 8, 8, 8, 8, 8, 8, 8, 8, 8, 8, 8, 8, 8, 8, 8, 8, 8, 8, 8, 8, 8, 8, 8, 8, 8, 8, 8, 8, 8, 8, 8, 8, 8, 8, 8, 8, 8, 8, 8, 8, 8, 8, 8, 8, 8, 8, 8, 8, 8, 8, 8, 8, 8, 8, 8, 8, 8, 8, 8, 8, 8, 8, 8, 8, 8, 8, 8, 8, 8, 8, 8]
def len8N (x : Nat) : Nat := (len8[x]?.getD 0).toNat
theorem len8_ok : ∀ x : Nat, x < 256 → (2 ^ len8N x ≤ 2 * x ∨ x = 0) ∧ len8N x ≤ 8 ∧ x < 2 ^ len8N x := by decide +kernel
theorem run_len8 (W : World) (x : Nat) (h : x < 256) : (Instr.index 9 (.string ⟨len8⟩) (.int .u8 (x : Int))).run Try.prog W = .ok (.int .u8 ((len8N x : Nat) : Int)) W := by
  have hs : len8.size = 256 := by decide +kernel
  rw [run_index_string (h := Try.underlying9), dif_pos ⟨by omega, by show (x : Int) < ((len8.size : Nat) : Int); rw [hs]; omega⟩]
  have hx : x < len8.size := by rw [hs]; exact h
  simp only [Int.toNat_natCast, len8N]
  rw [Array.getElem?_eq_getElem hx]
  rfl
/-- how many bits a number has: its power of two is above it, and at most twice it -/
def LenOk (x L : Nat) : Prop := 2 ^ L ≤ 2 * x ∧ L ≤ 20

set_option maxRecDepth 100000 in
set_option maxHeartbeats 2000000 in
theorem len64_walk (x : Nat) (hx : 0 < x) (hx5 : x ≤ 1000000) (w : World) : Calls Try.prog 81 #[.int .u64 (x : Int)] w fun e w' => (∃ L : Nat, LenOk x L ∧ e = .returned (.int .i64 (L : Int))) ∧ w' = w := by
  have h1 : ¬ (4294967296 : Int) ≤ (x : Int) := by omega
  have hi := run_len8
  by_cases h2 : 65536 ≤ x
  · have h2i : (65536 : Int) ≤ (x : Int) := by omega
    obtain ⟨y, hy⟩ : ∃ y, x / 65536 = y := ⟨_, rfl⟩
    have hyi : (x : Int) / 65536 = (y : Int) := by omega
    have hyn : ¬ (256 : Int) ≤ (y : Int) := by omega
    have hy2 : y < 256 := by omega
    have hyw : IntKind.u8.wrap (y : Int) = (y : Int) := IntWalk.u8_in _ (by omega)
    have hk := hi
    obtain ⟨q1, q2, q3⟩ := len8_ok y hy2
    have hr := fun W => hi W y hy2
    have HY := Lib.hid hy
    generalize len8N y = L at *
    have hLw : IntKind.i64.wrap (16 + (L : Int)) = ((16 + L : Nat) : Int) := by rw [IntWalk.i64_in _ (by omega)]; omega
    have hLw2 : IntKind.i64.wrap (L : Int) = (L : Int) := IntWalk.i64_in _ (by omega)
    have hfin : Hid (LenOk x (16 + L)) := Lib.hid ⟨by rw [Nat.pow_add]; omega, by
      rcases Nat.lt_or_ge 4 L with h | h
      · have h16 : 2 ^ 5 ≤ 2 ^ L := Nat.pow_le_pow_right (by omega) h
        omega
      · omega⟩
    unfold len8 at hr
    clear hi hk q1 q2 q3 hy
    go_enter Try.func81, Try.ntmps81
    go_wp2
    go_ret
    exact ⟨⟨16 + L, hfin.out, by first | rfl | (congr 2; omega)⟩, rfl⟩
  · by_cases h3 : 256 ≤ x
    · have h2i : ¬ (65536 : Int) ≤ (x : Int) := by omega
      have h3i : (256 : Int) ≤ (x : Int) := by omega
      obtain ⟨y, hy⟩ : ∃ y, x / 256 = y := ⟨_, rfl⟩
      have hyi : (x : Int) / 256 = (y : Int) := by omega
      have hy2 : y < 256 := by omega
      have hyw : IntKind.u8.wrap (y : Int) = (y : Int) := IntWalk.u8_in _ (by omega)
      obtain ⟨q1, q2, q3⟩ := len8_ok y hy2
      have hr := fun W => hi W y hy2
      have HY := Lib.hid hy
      generalize len8N y = L at *
      have hLw : IntKind.i64.wrap (8 + (L : Int)) = ((8 + L : Nat) : Int) := by rw [IntWalk.i64_in _ (by omega)]; omega
      have hLw2 : IntKind.i64.wrap (L : Int) = (L : Int) := IntWalk.i64_in _ (by omega)
      have hfin : Hid (LenOk x (8 + L)) := Lib.hid ⟨by rw [Nat.pow_add]; omega, by omega⟩
      unfold len8 at hr
      clear hi q1 q2 q3 hy
      go_enter Try.func81, Try.ntmps81
      go_wp2
      go_ret
      exact ⟨⟨8 + L, hfin.out, by first | rfl | (congr 2; omega)⟩, rfl⟩
    · have h2i : ¬ (65536 : Int) ≤ (x : Int) := by omega
      have h3i : ¬ (256 : Int) ≤ (x : Int) := by omega
      have hx2 : x < 256 := by omega
      have hyw : IntKind.u8.wrap (x : Int) = (x : Int) := IntWalk.u8_in _ (by omega)
      obtain ⟨q1, q2, q3⟩ := len8_ok x hx2
      have hr := fun W => hi W x hx2
      generalize len8N x = L at *
      have hLw2 : IntKind.i64.wrap (L : Int) = (L : Int) := IntWalk.i64_in _ (by omega)
      have hfin : Hid (LenOk x L) := Lib.hid ⟨by omega, by omega⟩
      unfold len8 at hr
      clear hi q1 q2 q3
      go_enter Try.func81, Try.ntmps81
      go_wp2
      go_ret
      exact ⟨⟨L, hfin.out, by first | rfl | (congr 2; omega)⟩, rfl⟩
end Go.Proofs.Ytjfmgoickokbjaa
