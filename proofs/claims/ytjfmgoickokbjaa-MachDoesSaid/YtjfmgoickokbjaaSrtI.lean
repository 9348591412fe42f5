/-
  Walk: breakPatternsOrdered at uint64.
-/
import Derived.Test.YtjfmgoickokbjaaSrtH
namespace Go.Proofs.Ytjfmgoickokbjaa
open Go.RowKit

theorem chg_past {g : Nat} {a b c : World} (h : Chg (OnlyG g) a b) (k : Chg (OnlyG a.heap.size) b c) : Chg (OnlyG g) a c :=
  ⟨k.os.trans h.os, k.tape.trans h.tape, k.output.trans h.output, Nat.le_trans h.size k.size, fun i hi hn => (k.block i (Nat.lt_of_lt_of_le hi h.size) (fun e => by have e2 : i = a.heap.size := e; omega)).trans (h.block i hi hn)⟩
theorem u64_and_ex (x y : Nat) (hx : x < 18446744073709551616) (hy : y < 18446744073709551616) : ∃ z : Nat, z ≤ y ∧ bits .and .u64 (x : Int) (y : Int) = ((z : Nat) : Int) := ⟨x &&& y, Nat.and_le_right, u64_and_nat x y hx hy⟩
set_option maxRecDepth 100000 in
set_option maxHeartbeats 2000000 in
theorem len_walk (x : Nat) (hx : 0 < x) (hx5 : x ≤ 1000000) (w : World) : Calls Try.prog 70 #[.int .u64 (x : Int)] w fun e w' => (∃ L : Nat, LenOk x L ∧ e = .returned (.int .i64 (L : Int))) ∧ w' = w := by
  have hc := len64_walk x hx hx5 w
  go_enter Try.func70, Try.ntmps70
  go_wp2_with fail
  refine Calls.mono hc ?_
  rintro e w' ⟨⟨L, hL, rfl⟩, rfl⟩
  go_wp2
  go_ret
  exact ⟨⟨L, hL, rfl⟩, rfl⟩
set_option maxRecDepth 100000 in
set_option maxHeartbeats 2000000 in
theorem nextPow_walk (x : Nat) (hx : 0 < x) (hx5 : x ≤ 1000000) (w : World) : Calls Try.prog 83 #[.int .i64 (x : Int)] w fun e w' => (∃ M : Nat, (1 ≤ M ∧ M ≤ 2 * x) ∧ e = .returned (.int .u64 (M : Int))) ∧ w' = w := by
  have hc := len_walk x hx hx5 w
  have hw : IntKind.u64.wrap (x : Int) = (x : Int) := IntWalk.u64_in _ (by omega)
  go_enter Try.func83, Try.ntmps83
  go_wp2_with fail
  refine Calls.mono hc ?_
  rintro e w' ⟨⟨L, hL, rfl⟩, rfl⟩
  obtain ⟨M, hM⟩ : ∃ M, 2 ^ L = M := ⟨_, rfl⟩
  have h1 : 1 ≤ M := by rw [← hM]; exact Nat.one_le_two_pow
  have h2 : M ≤ 2 * x := by rw [← hM]; exact hL.1
  have hMi : ((2 : Int) ^ L) = (M : Int) := by rw [← hM]; simp
  have hMi2 : ((2 ^ L : Nat) : Int) = (M : Int) := by rw [hM]
  have hMw : IntKind.u64.wrap (M : Int) = (M : Int) := IntWalk.u64_in _ (by omega)
  have hL20 : (L : Int) < 64 := by have := hL.2; omega
  clear hL hM hc
  go_wp2
  go_ret
  exact ⟨⟨M, ⟨h1, h2⟩, by first | rfl | (simp [hMi, hMi2, hMw]; done)⟩, rfl⟩
set_option maxRecDepth 100000 in
set_option maxHeartbeats 2000000 in
theorem breakPatterns_walk (g : Nat) (R : List Value) (d : Array Nat) (n cap lo hi : Nat) (hn : d.size = n) (hlo : lo + 12 < hi) (hhi : hi ≤ n) (hn5 : n ≤ 1000000) (w : World) (hN : NR w g d R) :
    Calls Try.prog 73 #[.slice (some ⟨g, 0, none⟩) n cap, .int .i64 (lo : Int), .int .i64 (hi : Int)] w (SRet w g R fun d' => Sort.PermIn lo hi d d') := by
  obtain ⟨L, hL⟩ : ∃ L, hi - lo = L := ⟨_, rfl⟩
  obtain ⟨Q, hQ⟩ : ∃ Q, L / 4 = Q := ⟨_, rfl⟩
  obtain ⟨S, hS⟩ : ∃ S, lo + Q * 2 - 1 = S := ⟨_, rfl⟩
  have hLi : IntKind.i64.wrap ((hi : Int) - (lo : Int)) = (L : Int) := by rw [IntWalk.i64_in _ (by omega)]; omega
  have hLu : IntKind.u64.wrap (L : Int) = (L : Int) := IntWalk.u64_in _ (by omega)
  have hQi : (L : Int) / 4 = (Q : Int) := by omega
  have hQt : (L : Int).tdiv 4 = (Q : Int) := by rw [Int.tdiv_eq_ediv_of_nonneg (by omega)]; omega
  have k0 : IntKind.i64.wrap (Q : Int) = (Q : Int) := IntWalk.i64_in _ (by omega)
  have k1 : IntKind.i64.wrap ((Q : Int) * 2) = (Q : Int) * 2 := IntWalk.i64_in _ (by omega)
  have k2 : IntKind.i64.wrap ((lo : Int) + (Q : Int) * 2) = (lo : Int) + (Q : Int) * 2 := IntWalk.i64_in _ (by omega)
  have k3 : IntKind.i64.wrap ((lo : Int) + (Q : Int) * 2 - 1) = (S : Int) := by rw [IntWalk.i64_in _ (by omega)]; omega
  have k4 : IntKind.i64.wrap ((lo : Int) + (Q : Int) * 2 + 1) = (lo : Int) + (Q : Int) * 2 + 1 := IntWalk.i64_in _ (by omega)
  have hL8 : (8 : Int) ≤ (L : Int) := by omega
  have HS : Hid (lo + L = hi ∧ Q * 4 ≤ L ∧ L < Q * 4 + 4 ∧ S + 1 = lo + Q * 2 ∧ 3 ≤ Q ∧ 13 ≤ L ∧ L ≤ n) := Lib.hid (by omega)
  have hnp := nextPow_walk L (by omega) (by omega)
  have hzx : ∀ W, (zeroValue 133).run Try.prog W = .ok (.int .u64 0) W := fun W => by kernel_rfl
  have hb1 := Blk.new w 133 #[.int .u64 (L : Int)]
  have B1 : Below w.heap.size w (w.alloc (.cells #[.int .u64 (L : Int)] 133)) := (Below.refl _ _).alloc (Nat.le_refl _) _
  have hglt := hN.lt
  clear hL hQ hS
  go_enter Try.func73, Try.ntmps73
  go_wp2_with fail
  generalize w.alloc (.cells #[.int .u64 (L : Int)] 133) = W1 at *
  refine Calls.mono (hnp W1) ?_
  rintro e w' ⟨⟨M, hM, rfl⟩, rfl⟩
  have hNw := Blk.below hN B1 hN.lt
  have hC1 : Chg (OnlyG g) w w' := Chg.of_ext B1
  have hne : ¬ w.heap.size = g := by omega
  have HM := Lib.hid hM
  have HG := Lib.hid hne
  obtain ⟨M1, hM1⟩ : ∃ m, M - 1 = m := ⟨_, rfl⟩
  have m1 : IntKind.u64.wrap ((M : Int) - 1) = (M1 : Int) := by have := HS.out; rw [IntWalk.u64_in _ (by omega)]; omega
  have m2 : (M : Int) - 1 = (M1 : Int) := by omega
  have m3 : IntKind.u64.wrap (M1 : Int) = (M1 : Int) := by have := HS.out; exact IntWalk.u64_in _ (by omega)
  have HM1 : Hid (M1 + 1 ≤ 2 * L ∧ M1 < 18446744073709551616) := Lib.hid (by have := HS.out; omega)
  clear hM hM1 hnp hzx hglt hne B1
  go_wp2
  go_loopw [9] (fun i wr => ∃ (x : Nat) (d1 : Array Nat) (z : Nat), S ≤ x ∧ x ≤ S + 3 ∧ i = .int .i64 (x : Int) ∧ Hid (Sort.PermIn lo hi d d1) ∧ d1.size = n ∧ NR wr g d1 R ∧ z < 18446744073709551616 ∧ Blk wr w.heap.size 133 #[.int .u64 (z : Int)] ∧ Chg (OnlyG g) w wr) (fun i _ => S + 4 - (intOf i).toNat)
  case atStart => exact ⟨S, d, L, Nat.le_refl _, by omega, by first | rfl | go_num, Lib.hid (Sort.permIn_refl d lo hi), hn, hNw, by have := HS.out; omega, hb1, hC1⟩
  case round =>
    obtain ⟨x, d1, z, hx1, hx2, rfl, hP, hn1, hN_wr, hz, hbz, hC_wr⟩ := hrel
    by_cases hlt : x < S + 3
    · have hlti : (x : Int) ≤ (lo : Int) + (Q : Int) * 2 + 1 := by have := HS.out; omega
      have hcall := xorNext_walk w.heap.size z hz wr hbz
      go_wp2_with fail
      refine Calls.mono hcall ?_
      rintro e W3 ⟨z2, hz2, rfl, hb3, hC3⟩
      have hN_W3 := Blk.chg hN_wr hC3 (fun e => HG.out (Eq.symm e))
      have hC_W3 : Chg (OnlyG g) w W3 := chg_past hC_wr hC3
      obtain ⟨A, hA, hand⟩ := u64_and_ex z2 M1 hz2 HM1.out.2
      have hA2 : A + 1 ≤ 2 * L := by have := HM1.out.1; omega
      have hAw : IntKind.i64.wrap (A : Int) = (A : Int) := by have := HS.out; exact IntWalk.i64_in _ (by omega)
      clear hcall hbz hC3 hN_wr hC_wr
      by_cases hAL : L ≤ A
      · have hALi : (L : Int) ≤ (A : Int) := by omega
        obtain ⟨o, ho⟩ : ∃ o, A - L = o := ⟨_, rfl⟩
        have how : IntKind.i64.wrap ((A : Int) - (L : Int)) = (o : Int) := by have := HS.out; rw [IntWalk.i64_in _ (by omega)]; omega
        have hoL : o < L := by omega
        have hoS : lo + o < n ∧ x < n := by have := HS.out; omega
        go_wp2_with fail
        refine Flow.wp_region_flow (g) [(17, fun b => b = g), (19, fun b => b = g)] [(11, fun W => NR W g d1 R), (15, fun W => NR W g d1 R), (17, fun W => NR W g d1 R), (20, fun W => Chg (OnlyG g) W3 W), (20, fun W => Blk W w.heap.size 133 #[.int .u64 (z2 : Int)])] (by kernel_rfl) (by kernel_rfl) (Nat.le_of_lt hN_W3.lt) (Flow.nz_cons (by rintro b rfl; exact Nat.le_refl _) (Flow.nz_cons (by rintro b rfl; exact Nat.le_refl _) Flow.nz_nil)) (Flow.facts_cons (hN_W3.drew) (Flow.kept_blk id) (Flow.fz_cons (Flow.no_follow (by kernel_rfl)) (Flow.fz_cons (Flow.no_follow (by kernel_rfl)) Flow.fz_nil)) (Flow.facts_cons (hN_W3.drew) (Flow.kept_blk id) (Flow.fz_cons (Flow.no_follow (by kernel_rfl)) (Flow.fz_cons (Flow.no_follow (by kernel_rfl)) Flow.fz_nil)) (Flow.facts_cons (hN_W3.drew) (Flow.kept_blk id) (Flow.fz_cons (Flow.no_follow (by kernel_rfl)) (Flow.fz_cons (Flow.no_follow (by kernel_rfl)) Flow.fz_nil)) (Flow.facts_cons ((Chg.refl _ _).drew) (fun _ _ c h => onlyg_trans h c (by first | exact fun _ hj => hj | exact fun _ hj => hj.elim)) (Flow.fz_cons (fun _ => fun _ _ c h => onlyg_trans h c (by first | exact fun _ hj => hj | exact fun _ hj => hj.elim)) (Flow.fz_cons (fun _ => fun _ _ c h => onlyg_trans h c (by first | exact fun _ hj => hj | exact fun _ hj => hj.elim)) Flow.fz_nil)) (Flow.facts_cons (hb3.drew) (fun _ _ c h => h.chg c id) (Flow.fz_cons (fun _ => fun _ _ c h => h.chg c (fun e => HG.out e)) (Flow.fz_cons (fun _ => fun _ _ c h => h.chg c (fun e => HG.out e)) Flow.fz_nil)) Flow.facts_nil))))) ?_
        refine Flow.pass_old (X := .slice (some ⟨g, 0, none⟩) n cap) 0 (Flow.met_none rfl) (.inl rfl) (by kernel_rfl) (by kernel_rfl) rfl ?_
        refine Flow.pass_old (X := .int .i64 ((x : Int))) 9 (Flow.met_none rfl) (.inl rfl) (by kernel_rfl) (by kernel_rfl) rfl ?_
        refine Flow.pass_old (X := .slice (some ⟨g, 0, none⟩) n cap) 0 (Flow.met_none rfl) (.inl rfl) (by kernel_rfl) (by kernel_rfl) rfl ?_
        refine Flow.pass_old (X := .int .i64 ((lo : Int))) 1 (Flow.met_none rfl) (.inl rfl) (by kernel_rfl) (by kernel_rfl) rfl ?_
        refine Flow.pass_old (X := .int .i64 ((o : Int))) 10 (Flow.met_none rfl) (.inl rfl) (by kernel_rfl) (by kernel_rfl) rfl ?_
        refine Flow.pass_val (.int .i64 ((lo : Int) + (o : Int))) (Flow.met_none rfl) (fun a W hH => ?_) ?_
        · have e0 := Flow.see_new 50 3 hH.sees (by kernel_rfl) (by kernel_rfl) rfl rfl
          have e1 := Flow.see_new 51 4 hH.sees (by kernel_rfl) (by kernel_rfl) rfl rfl
          go_simp; first | done | rfl | (rw [IntWalk.i64_in _ (by omega)]; first | done | rfl | omega | (simp; done))
        refine Flow.pass_old (X := .slice (some ⟨g, 0, none⟩) n cap) 0 (Flow.met_none rfl) (.inl rfl) (by kernel_rfl) (by kernel_rfl) rfl ?_
        refine Flow.pass_old (X := .int .i64 ((lo : Int))) 1 (Flow.met_none rfl) (.inl rfl) (by kernel_rfl) (by kernel_rfl) rfl ?_
        refine Flow.pass_old (X := .int .i64 ((o : Int))) 10 (Flow.met_none rfl) (.inl rfl) (by kernel_rfl) (by kernel_rfl) rfl ?_
        refine Flow.pass_val (.int .i64 ((lo : Int) + (o : Int))) (Flow.met_none rfl) (fun a W hH => ?_) ?_
        · have e0 := Flow.see_new 54 7 hH.sees (by kernel_rfl) (by kernel_rfl) rfl rfl
          have e1 := Flow.see_new 55 8 hH.sees (by kernel_rfl) (by kernel_rfl) rfl rfl
          go_simp; first | done | rfl | (rw [IntWalk.i64_in _ (by omega)]; first | done | rfl | omega | (simp; done))
        refine Flow.pass_val (.pointer (some ⟨g, (lo + o), none⟩)) (Flow.met_none rfl) (fun a W hH => ?_) ?_
        · have e0 := Flow.see_new 53 6 hH.sees (by kernel_rfl) (by kernel_rfl) rfl rfl
          have e1 := Flow.see_new 56 9 hH.sees (by kernel_rfl) (by kernel_rfl) rfl rfl
          exact s_ixS (s := 1) ((lo + o)) _ rfl Try.underlying72 (by kernel_rfl) (by first | exact e0 | simpa [Act.eval] using e0 | (simp [Act.eval])) (by first | exact e1 | simpa [Act.eval] using e1 | (simp [Act.eval])) (by omega) (by omega) (by omega)
        refine Flow.pass_val (.int .u64 ((d1[(lo + o)]! : Nat) : Int)) (Flow.met_none rfl) (fun a W hH => ?_) ?_
        · have e0 := Flow.see_new 57 10 hH.sees (by kernel_rfl) (by kernel_rfl) rfl rfl
          have fa0 : (fun W => NR W g d1 R) W := hH.fact _ (List.mem_of_getElem? (i := 0) rfl) rfl
          have cc := nr_cell fa0 ((lo + o)) (by omega); go_simp; first | done | rfl
        refine Flow.pass_old (X := .slice (some ⟨g, 0, none⟩) n cap) 0 (Flow.met_none rfl) (.inl rfl) (by kernel_rfl) (by kernel_rfl) rfl ?_
        refine Flow.pass_old (X := .int .i64 ((x : Int))) 9 (Flow.met_none rfl) (.inl rfl) (by kernel_rfl) (by kernel_rfl) rfl ?_
        refine Flow.pass_val (.pointer (some ⟨g, x, none⟩)) (Flow.met_none rfl) (fun a W hH => ?_) ?_
        · have e0 := Flow.see_new 59 12 hH.sees (by kernel_rfl) (by kernel_rfl) rfl rfl
          have e1 := Flow.see_new 60 13 hH.sees (by kernel_rfl) (by kernel_rfl) rfl rfl
          exact s_ixS (s := 1) (x) _ rfl Try.underlying72 (by kernel_rfl) (by first | exact e0 | simpa [Act.eval] using e0 | (simp [Act.eval])) (by first | exact e1 | simpa [Act.eval] using e1 | (simp [Act.eval])) (by omega) (by omega) (by omega)
        refine Flow.pass_val (.int .u64 ((d1[x]! : Nat) : Int)) (Flow.met_none rfl) (fun a W hH => ?_) ?_
        · have e0 := Flow.see_new 61 14 hH.sees (by kernel_rfl) (by kernel_rfl) rfl rfl
          have fa1 : (fun W => NR W g d1 R) W := hH.fact _ (List.mem_of_getElem? (i := 1) rfl) rfl
          have cc := nr_cell fa1 (x) (by omega); go_simp; first | done | rfl
        refine Flow.pass_val (.pointer (some ⟨g, x, none⟩)) (Flow.met_none rfl) (fun a W hH => ?_) ?_
        · have e0 := Flow.see_new 47 0 hH.sees (by kernel_rfl) (by kernel_rfl) rfl rfl
          have e1 := Flow.see_new 48 1 hH.sees (by kernel_rfl) (by kernel_rfl) rfl rfl
          exact s_ixS (s := 1) (x) _ rfl Try.underlying72 (by kernel_rfl) (by first | exact e0 | simpa [Act.eval] using e0 | (simp [Act.eval])) (by first | exact e1 | simpa [Act.eval] using e1 | (simp [Act.eval])) (by omega) (by omega) (by omega)
        refine Flow.pass_lin [19] (fun _ W => NR W g (d1.setIfInBounds (x) (d1[(lo + o)]!)) R) (Flow.kept_lin [19] (fun _ _ _ c h => h.chg c id) (Flow.lz_cons (Flow.no_follow (by kernel_rfl)) (Flow.lz_cons (fun _ => .inl rfl) Flow.lz_nil))) (Flow.met_none rfl) (fun a W hH => ?_) ?_
        · have e0 := Flow.see_new 63 16 hH.sees (by kernel_rfl) (by kernel_rfl) rfl rfl
          have e1 := Flow.see_new 58 11 hH.sees (by kernel_rfl) (by kernel_rfl) rfl rfl
          have fa2 : (fun W => NR W g d1 R) W := hH.fact _ (List.mem_of_getElem? (i := 2) rfl) rfl
          refine s_skip (s_store rfl (by kernel_rfl) fa2 e0 e1 (nr_size (by omega))) ?_
          exact ⟨_, rfl, Chg.grown (s_grown _ _ _ _) (by rintro j h; cases h; rfl), nr_set fa2 _ (by omega) _⟩
        refine Flow.pass_val (.pointer (some ⟨g, (lo + o), none⟩)) (Flow.met_none rfl) (fun a W hH => ?_) ?_
        · have e0 := Flow.see_new 49 2 hH.sees (by kernel_rfl) (by kernel_rfl) rfl rfl
          have e1 := Flow.see_new 52 5 hH.sees (by kernel_rfl) (by kernel_rfl) rfl rfl
          exact s_ixS (s := 1) ((lo + o)) _ rfl Try.underlying72 (by kernel_rfl) (by first | exact e0 | simpa [Act.eval] using e0 | (simp [Act.eval])) (by first | exact e1 | simpa [Act.eval] using e1 | (simp [Act.eval])) (by omega) (by omega) (by omega)
        refine Flow.pass_gen (fun _ W => NR W g ((d1.setIfInBounds (x) (d1[(lo + o)]!)).setIfInBounds ((lo + o)) (d1[x]!)) R) (Flow.kept_of (fun _ _ _ c h => h.chg c id) (Flow.kz_cons (Flow.no_follow (by kernel_rfl)) (Flow.kz_cons (Flow.no_follow (by kernel_rfl)) Flow.kz_nil))) (Flow.met_none rfl) (fun a W hH => ?_) ?_
        · have e0 := Flow.see_new 64 18 hH.sees (by kernel_rfl) (by kernel_rfl) rfl rfl
          have e1 := Flow.see_new 62 15 hH.sees (by kernel_rfl) (by kernel_rfl) rfl rfl
          obtain ⟨_, hP⟩ := Flow.past_lin 17 hH.past (by kernel_rfl) (by kernel_rfl) rfl (by kernel_rfl)
          refine s_skip (s_store rfl (by kernel_rfl) hP e0 e1 (nr_size (by rw [Array.size_setIfInBounds]; omega))) ?_
          exact ⟨_, rfl, Chg.grown (s_grown _ _ _ _) (by rintro j h; cases h; rfl), nr_set hP _ (by rw [Array.size_setIfInBounds]; omega) _⟩
        refine Flow.pass_end [none, none, none, none, none, none, none, none, none, none, none, none, none, none, none, none, none, none, none, none, none, none, none, none, none, none, none, none, none, none, none, none, none, none, none, none, none, none, none, none, none, none, none, none, none, none, none, some 47, some 48, some 49, some 50, some 51, some 52, some 53, some 54, some 55, some 56, some 57, some 58, some 59, some 60, some 61, some 62, some 63, some 64] (by kernel_rfl) ?_
        intro f gg w9 hB hfa hT hfg
        have F3 : (fun W => Chg (OnlyG g) W3 W) w9 := hfa _ (List.mem_of_getElem? (i := 3) rfl) (Nat.le_refl _)
        have F4 : (fun W => Blk W w.heap.size 133 #[.int .u64 (z2 : Int)]) w9 := hfa _ (List.mem_of_getElem? (i := 4) rfl) (Nat.le_refl _)
        have hN_W4 : NR w9 g (Sort.swp d1 (x) (lo + o)) R := hT 19 _ (by kernel_rfl) rfl
        have hC_W4 := hC_W3.trans F3
        simp only [Reg.sel]
        obtain ⟨W4, hWW4⟩ : ∃ W, W = w9 := ⟨_, rfl⟩
        subst hWW4
        clear hT hfg hfa hB F3
        have hb4 := F4
        go_wp2
        go_roundw
        case rel => first | exact ⟨x + 1, _, z2, by omega, by omega, by go_num, Lib.hid (Sort.permIn_trans _ _ _ lo hi hP.out (Sort.swp_permIn d1 lo hi x (lo + o) (by have := HS.out; omega) (by have := HS.out; omega) (by omega) (by have := HS.out; omega) (by omega))), by rw [swp_size]; exact hn1, hN_W4, hz2, hb4, hC_W4⟩ | ((repeat apply Exists.intro); refine ⟨?_, rfl⟩; exact ⟨x + 1, _, z2, by omega, by omega, by go_num, Lib.hid (Sort.permIn_trans _ _ _ lo hi hP.out (Sort.swp_permIn d1 lo hi x (lo + o) (by have := HS.out; omega) (by have := HS.out; omega) (by omega) (by have := HS.out; omega) (by omega))), by rw [swp_size]; exact hn1, hN_W4, hz2, hb4, hC_W4⟩)
        case measure => first | (simp [intOf]; done) | (simp [intOf]; omega) | (simp only [intOf]; omega)
      · have hALi : ¬ (L : Int) ≤ (A : Int) := by omega
        have hoL : A < L := by omega
        have hoS : lo + A < n ∧ x < n := by have := HS.out; omega
        go_wp2_with fail
        refine Flow.wp_region_flow (g) [(17, fun b => b = g), (19, fun b => b = g)] [(11, fun W => NR W g d1 R), (15, fun W => NR W g d1 R), (17, fun W => NR W g d1 R), (20, fun W => Chg (OnlyG g) W3 W), (20, fun W => Blk W w.heap.size 133 #[.int .u64 (z2 : Int)])] (by kernel_rfl) (by kernel_rfl) (Nat.le_of_lt hN_W3.lt) (Flow.nz_cons (by rintro b rfl; exact Nat.le_refl _) (Flow.nz_cons (by rintro b rfl; exact Nat.le_refl _) Flow.nz_nil)) (Flow.facts_cons (hN_W3.drew) (Flow.kept_blk id) (Flow.fz_cons (Flow.no_follow (by kernel_rfl)) (Flow.fz_cons (Flow.no_follow (by kernel_rfl)) Flow.fz_nil)) (Flow.facts_cons (hN_W3.drew) (Flow.kept_blk id) (Flow.fz_cons (Flow.no_follow (by kernel_rfl)) (Flow.fz_cons (Flow.no_follow (by kernel_rfl)) Flow.fz_nil)) (Flow.facts_cons (hN_W3.drew) (Flow.kept_blk id) (Flow.fz_cons (Flow.no_follow (by kernel_rfl)) (Flow.fz_cons (Flow.no_follow (by kernel_rfl)) Flow.fz_nil)) (Flow.facts_cons ((Chg.refl _ _).drew) (fun _ _ c h => onlyg_trans h c (by first | exact fun _ hj => hj | exact fun _ hj => hj.elim)) (Flow.fz_cons (fun _ => fun _ _ c h => onlyg_trans h c (by first | exact fun _ hj => hj | exact fun _ hj => hj.elim)) (Flow.fz_cons (fun _ => fun _ _ c h => onlyg_trans h c (by first | exact fun _ hj => hj | exact fun _ hj => hj.elim)) Flow.fz_nil)) (Flow.facts_cons (hb3.drew) (fun _ _ c h => h.chg c id) (Flow.fz_cons (fun _ => fun _ _ c h => h.chg c (fun e => HG.out e)) (Flow.fz_cons (fun _ => fun _ _ c h => h.chg c (fun e => HG.out e)) Flow.fz_nil)) Flow.facts_nil))))) ?_
        refine Flow.pass_old (X := .slice (some ⟨g, 0, none⟩) n cap) 0 (Flow.met_none rfl) (.inl rfl) (by kernel_rfl) (by kernel_rfl) rfl ?_
        refine Flow.pass_old (X := .int .i64 ((x : Int))) 9 (Flow.met_none rfl) (.inl rfl) (by kernel_rfl) (by kernel_rfl) rfl ?_
        refine Flow.pass_old (X := .slice (some ⟨g, 0, none⟩) n cap) 0 (Flow.met_none rfl) (.inl rfl) (by kernel_rfl) (by kernel_rfl) rfl ?_
        refine Flow.pass_old (X := .int .i64 ((lo : Int))) 1 (Flow.met_none rfl) (.inl rfl) (by kernel_rfl) (by kernel_rfl) rfl ?_
        refine Flow.pass_old (X := .int .i64 ((A : Int))) 10 (Flow.met_none rfl) (.inl rfl) (by kernel_rfl) (by kernel_rfl) rfl ?_
        refine Flow.pass_val (.int .i64 ((lo : Int) + (A : Int))) (Flow.met_none rfl) (fun a W hH => ?_) ?_
        · have e0 := Flow.see_new 50 3 hH.sees (by kernel_rfl) (by kernel_rfl) rfl rfl
          have e1 := Flow.see_new 51 4 hH.sees (by kernel_rfl) (by kernel_rfl) rfl rfl
          go_simp; first | done | rfl | (rw [IntWalk.i64_in _ (by omega)]; first | done | rfl | omega | (simp; done))
        refine Flow.pass_old (X := .slice (some ⟨g, 0, none⟩) n cap) 0 (Flow.met_none rfl) (.inl rfl) (by kernel_rfl) (by kernel_rfl) rfl ?_
        refine Flow.pass_old (X := .int .i64 ((lo : Int))) 1 (Flow.met_none rfl) (.inl rfl) (by kernel_rfl) (by kernel_rfl) rfl ?_
        refine Flow.pass_old (X := .int .i64 ((A : Int))) 10 (Flow.met_none rfl) (.inl rfl) (by kernel_rfl) (by kernel_rfl) rfl ?_
        refine Flow.pass_val (.int .i64 ((lo : Int) + (A : Int))) (Flow.met_none rfl) (fun a W hH => ?_) ?_
        · have e0 := Flow.see_new 54 7 hH.sees (by kernel_rfl) (by kernel_rfl) rfl rfl
          have e1 := Flow.see_new 55 8 hH.sees (by kernel_rfl) (by kernel_rfl) rfl rfl
          go_simp; first | done | rfl | (rw [IntWalk.i64_in _ (by omega)]; first | done | rfl | omega | (simp; done))
        refine Flow.pass_val (.pointer (some ⟨g, (lo + A), none⟩)) (Flow.met_none rfl) (fun a W hH => ?_) ?_
        · have e0 := Flow.see_new 53 6 hH.sees (by kernel_rfl) (by kernel_rfl) rfl rfl
          have e1 := Flow.see_new 56 9 hH.sees (by kernel_rfl) (by kernel_rfl) rfl rfl
          exact s_ixS (s := 1) ((lo + A)) _ rfl Try.underlying72 (by kernel_rfl) (by first | exact e0 | simpa [Act.eval] using e0 | (simp [Act.eval])) (by first | exact e1 | simpa [Act.eval] using e1 | (simp [Act.eval])) (by omega) (by omega) (by omega)
        refine Flow.pass_val (.int .u64 ((d1[(lo + A)]! : Nat) : Int)) (Flow.met_none rfl) (fun a W hH => ?_) ?_
        · have e0 := Flow.see_new 57 10 hH.sees (by kernel_rfl) (by kernel_rfl) rfl rfl
          have fa0 : (fun W => NR W g d1 R) W := hH.fact _ (List.mem_of_getElem? (i := 0) rfl) rfl
          have cc := nr_cell fa0 ((lo + A)) (by omega); go_simp; first | done | rfl
        refine Flow.pass_old (X := .slice (some ⟨g, 0, none⟩) n cap) 0 (Flow.met_none rfl) (.inl rfl) (by kernel_rfl) (by kernel_rfl) rfl ?_
        refine Flow.pass_old (X := .int .i64 ((x : Int))) 9 (Flow.met_none rfl) (.inl rfl) (by kernel_rfl) (by kernel_rfl) rfl ?_
        refine Flow.pass_val (.pointer (some ⟨g, x, none⟩)) (Flow.met_none rfl) (fun a W hH => ?_) ?_
        · have e0 := Flow.see_new 59 12 hH.sees (by kernel_rfl) (by kernel_rfl) rfl rfl
          have e1 := Flow.see_new 60 13 hH.sees (by kernel_rfl) (by kernel_rfl) rfl rfl
          exact s_ixS (s := 1) (x) _ rfl Try.underlying72 (by kernel_rfl) (by first | exact e0 | simpa [Act.eval] using e0 | (simp [Act.eval])) (by first | exact e1 | simpa [Act.eval] using e1 | (simp [Act.eval])) (by omega) (by omega) (by omega)
        refine Flow.pass_val (.int .u64 ((d1[x]! : Nat) : Int)) (Flow.met_none rfl) (fun a W hH => ?_) ?_
        · have e0 := Flow.see_new 61 14 hH.sees (by kernel_rfl) (by kernel_rfl) rfl rfl
          have fa1 : (fun W => NR W g d1 R) W := hH.fact _ (List.mem_of_getElem? (i := 1) rfl) rfl
          have cc := nr_cell fa1 (x) (by omega); go_simp; first | done | rfl
        refine Flow.pass_val (.pointer (some ⟨g, x, none⟩)) (Flow.met_none rfl) (fun a W hH => ?_) ?_
        · have e0 := Flow.see_new 47 0 hH.sees (by kernel_rfl) (by kernel_rfl) rfl rfl
          have e1 := Flow.see_new 48 1 hH.sees (by kernel_rfl) (by kernel_rfl) rfl rfl
          exact s_ixS (s := 1) (x) _ rfl Try.underlying72 (by kernel_rfl) (by first | exact e0 | simpa [Act.eval] using e0 | (simp [Act.eval])) (by first | exact e1 | simpa [Act.eval] using e1 | (simp [Act.eval])) (by omega) (by omega) (by omega)
        refine Flow.pass_lin [19] (fun _ W => NR W g (d1.setIfInBounds (x) (d1[(lo + A)]!)) R) (Flow.kept_lin [19] (fun _ _ _ c h => h.chg c id) (Flow.lz_cons (Flow.no_follow (by kernel_rfl)) (Flow.lz_cons (fun _ => .inl rfl) Flow.lz_nil))) (Flow.met_none rfl) (fun a W hH => ?_) ?_
        · have e0 := Flow.see_new 63 16 hH.sees (by kernel_rfl) (by kernel_rfl) rfl rfl
          have e1 := Flow.see_new 58 11 hH.sees (by kernel_rfl) (by kernel_rfl) rfl rfl
          have fa2 : (fun W => NR W g d1 R) W := hH.fact _ (List.mem_of_getElem? (i := 2) rfl) rfl
          refine s_skip (s_store rfl (by kernel_rfl) fa2 e0 e1 (nr_size (by omega))) ?_
          exact ⟨_, rfl, Chg.grown (s_grown _ _ _ _) (by rintro j h; cases h; rfl), nr_set fa2 _ (by omega) _⟩
        refine Flow.pass_val (.pointer (some ⟨g, (lo + A), none⟩)) (Flow.met_none rfl) (fun a W hH => ?_) ?_
        · have e0 := Flow.see_new 49 2 hH.sees (by kernel_rfl) (by kernel_rfl) rfl rfl
          have e1 := Flow.see_new 52 5 hH.sees (by kernel_rfl) (by kernel_rfl) rfl rfl
          exact s_ixS (s := 1) ((lo + A)) _ rfl Try.underlying72 (by kernel_rfl) (by first | exact e0 | simpa [Act.eval] using e0 | (simp [Act.eval])) (by first | exact e1 | simpa [Act.eval] using e1 | (simp [Act.eval])) (by omega) (by omega) (by omega)
        refine Flow.pass_gen (fun _ W => NR W g ((d1.setIfInBounds (x) (d1[(lo + A)]!)).setIfInBounds ((lo + A)) (d1[x]!)) R) (Flow.kept_of (fun _ _ _ c h => h.chg c id) (Flow.kz_cons (Flow.no_follow (by kernel_rfl)) (Flow.kz_cons (Flow.no_follow (by kernel_rfl)) Flow.kz_nil))) (Flow.met_none rfl) (fun a W hH => ?_) ?_
        · have e0 := Flow.see_new 64 18 hH.sees (by kernel_rfl) (by kernel_rfl) rfl rfl
          have e1 := Flow.see_new 62 15 hH.sees (by kernel_rfl) (by kernel_rfl) rfl rfl
          obtain ⟨_, hP⟩ := Flow.past_lin 17 hH.past (by kernel_rfl) (by kernel_rfl) rfl (by kernel_rfl)
          refine s_skip (s_store rfl (by kernel_rfl) hP e0 e1 (nr_size (by rw [Array.size_setIfInBounds]; omega))) ?_
          exact ⟨_, rfl, Chg.grown (s_grown _ _ _ _) (by rintro j h; cases h; rfl), nr_set hP _ (by rw [Array.size_setIfInBounds]; omega) _⟩
        refine Flow.pass_end [none, none, none, none, none, none, none, none, none, none, none, none, none, none, none, none, none, none, none, none, none, none, none, none, none, none, none, none, none, none, none, none, none, none, none, none, none, none, none, none, none, none, none, none, none, none, none, some 47, some 48, some 49, some 50, some 51, some 52, some 53, some 54, some 55, some 56, some 57, some 58, some 59, some 60, some 61, some 62, some 63, some 64] (by kernel_rfl) ?_
        intro f gg w9 hB hfa hT hfg
        have F3 : (fun W => Chg (OnlyG g) W3 W) w9 := hfa _ (List.mem_of_getElem? (i := 3) rfl) (Nat.le_refl _)
        have F4 : (fun W => Blk W w.heap.size 133 #[.int .u64 (z2 : Int)]) w9 := hfa _ (List.mem_of_getElem? (i := 4) rfl) (Nat.le_refl _)
        have hN_W4 : NR w9 g (Sort.swp d1 (x) (lo + A)) R := hT 19 _ (by kernel_rfl) rfl
        have hC_W4 := hC_W3.trans F3
        simp only [Reg.sel]
        obtain ⟨W4, hWW4⟩ : ∃ W, W = w9 := ⟨_, rfl⟩
        subst hWW4
        clear hT hfg hfa hB F3
        have hb4 := F4
        go_wp2
        go_roundw
        case rel => first | exact ⟨x + 1, _, z2, by omega, by omega, by go_num, Lib.hid (Sort.permIn_trans _ _ _ lo hi hP.out (Sort.swp_permIn d1 lo hi x (lo + A) (by have := HS.out; omega) (by have := HS.out; omega) (by omega) (by have := HS.out; omega) (by omega))), by rw [swp_size]; exact hn1, hN_W4, hz2, hb4, hC_W4⟩ | ((repeat apply Exists.intro); refine ⟨?_, rfl⟩; exact ⟨x + 1, _, z2, by omega, by omega, by go_num, Lib.hid (Sort.permIn_trans _ _ _ lo hi hP.out (Sort.swp_permIn d1 lo hi x (lo + A) (by have := HS.out; omega) (by have := HS.out; omega) (by omega) (by have := HS.out; omega) (by omega))), by rw [swp_size]; exact hn1, hN_W4, hz2, hb4, hC_W4⟩)
        case measure => first | (simp [intOf]; done) | (simp [intOf]; omega) | (simp only [intOf]; omega)
    · have hlti : ¬ (x : Int) ≤ (lo : Int) + (Q : Int) * 2 + 1 := by have := HS.out; omega
      go_wp2
      refine bodyPost_ret (results_none rfl _ _ _) rfl ?_
      exact ⟨rfl, d1, hP.out, hN_wr, hC_wr⟩
end Go.Proofs.Ytjfmgoickokbjaa
