/-
  Walks: choosePivotOrdered at uint64.
-/
import Derived.Test.YtjfmgoickokbjaaSrtD
namespace Go.Proofs.Ytjfmgoickokbjaa
open Go.RowKit

/-- the pivot's functions: they read the row, and count at block zb -/
structure PV (w : World) (g : Nat) (d : Array Nat) (R : List Value) (zb : Nat) : Prop where
  row : NR w g d R
  cnt : ∃ s, Blk w zb 3 #[.int .i64 s]
  ne : zb ≠ g
theorem PV.chg {w w' : World} {g : Nat} {d : Array Nat} {R : List Value} {zb : Nat} (h : PV w g d R zb) (k : Chg (OnlyG zb) w w') (hc : ∃ s, Blk w' zb 3 #[.int .i64 s]) : PV w' g d R zb := ⟨Blk.chg h.row k (fun e => h.ne (Eq.symm e)), hc, h.ne⟩
set_option maxRecDepth 100000 in
set_option maxHeartbeats 2000000 in
theorem order2_walk (g : Nat) (R : List Value) (d : Array Nat) (n cap x y zb : Nat) (hn : d.size = n) (hx : x < n) (hy : y < n) (_hn5 : n ≤ 1000000) (w : World) (hV : PV w g d R zb) :
    Calls Try.prog 88 #[.slice (some ⟨g, 0, none⟩) n cap, .int .i64 (x : Int), .int .i64 (y : Int), .pointer (some ⟨zb, 0, none⟩)] w fun e w' =>
      ∃ p q : Nat, ((p = x ∧ q = y) ∨ (p = y ∧ q = x)) ∧ e = .returned (.tuple #[.int .i64 (p : Int), .int .i64 (q : Int)]) ∧ PV w' g d R zb ∧ Chg (OnlyG zb) w w' := by
  have hN_w := hV.row
  obtain ⟨s, hs⟩ := hV.cnt
  have hne := hV.ne
  have hC_w := Chg.refl (OnlyG zb) w
  clear hV
  go_enter Try.func88, Try.ntmps88
  go_upto_region 1 with (fail)
  refine s_cut [none, none, none, none, none, none, none, none, none, none, some 10, some 11, some 12, some 13, some 14, some 15, some 16, some 17, some 18, none, none, none, none, none, none, none, none, none] (fun f W => f 18 = .bool (ltN d[y]! d[x]!) ∧ Below w.heap.size w W) (fun Q1 hQ1 => ?_) ?_
  · skip
    refine Flow.wp_region_flow (w.heap.size) [] [] (by kernel_rfl) (by kernel_rfl) (Nat.le_refl _) (fun _ h => by cases h) Flow.facts_nil ?_
    refine Flow.pass_old (X := .slice (some ⟨g, 0, none⟩) n cap) 0 (Flow.met_none rfl) (.inl rfl) (by kernel_rfl) (by kernel_rfl) rfl ?_
    refine Flow.pass_old (X := .int .i64 ((y : Int))) 2 (Flow.met_none rfl) (.inl rfl) (by kernel_rfl) (by kernel_rfl) rfl ?_
    refine Flow.pass_val (.pointer (some ⟨g, y, none⟩)) (Flow.met_none rfl) (fun a W hH => ?_) ?_
    · have e0 := Flow.see_new 10 0 hH.sees (by kernel_rfl) (by kernel_rfl) rfl rfl
      have e1 := Flow.see_new 11 1 hH.sees (by kernel_rfl) (by kernel_rfl) rfl rfl
      exact s_ixS (s := 1) (y) _ rfl Try.underlying72 (by kernel_rfl) (by first | exact e0 | simpa [Act.eval] using e0 | (simp [Act.eval])) (by first | exact e1 | simpa [Act.eval] using e1 | (simp [Act.eval])) (by omega) (by omega) (by omega)
    refine Flow.pass_val (.int .u64 ((d[y]! : Nat) : Int)) (Flow.met_none rfl) (fun a W hH => ?_) ?_
    · have e0 := Flow.see_new 12 2 hH.sees (by kernel_rfl) (by kernel_rfl) rfl rfl
      have cc := nr_cell (hN_w.below ((Below.refl w.heap.size w).drew.trans hH.below) hN_w.lt) (y) (by omega); go_simp; first | done | rfl
    refine Flow.pass_old (X := .slice (some ⟨g, 0, none⟩) n cap) 0 (Flow.met_none rfl) (.inl rfl) (by kernel_rfl) (by kernel_rfl) rfl ?_
    refine Flow.pass_old (X := .int .i64 ((x : Int))) 1 (Flow.met_none rfl) (.inl rfl) (by kernel_rfl) (by kernel_rfl) rfl ?_
    refine Flow.pass_val (.pointer (some ⟨g, x, none⟩)) (Flow.met_none rfl) (fun a W hH => ?_) ?_
    · have e0 := Flow.see_new 14 4 hH.sees (by kernel_rfl) (by kernel_rfl) rfl rfl
      have e1 := Flow.see_new 15 5 hH.sees (by kernel_rfl) (by kernel_rfl) rfl rfl
      exact s_ixS (s := 1) (x) _ rfl Try.underlying72 (by kernel_rfl) (by first | exact e0 | simpa [Act.eval] using e0 | (simp [Act.eval])) (by first | exact e1 | simpa [Act.eval] using e1 | (simp [Act.eval])) (by omega) (by omega) (by omega)
    refine Flow.pass_val (.int .u64 ((d[x]! : Nat) : Int)) (Flow.met_none rfl) (fun a W hH => ?_) ?_
    · have e0 := Flow.see_new 16 6 hH.sees (by kernel_rfl) (by kernel_rfl) rfl rfl
      have cc := nr_cell (hN_w.below ((Below.refl w.heap.size w).drew.trans hH.below) hN_w.lt) (x) (by omega); go_simp; first | done | rfl
    refine Flow.pass_step (Reg.eqs (.bool (ltN (d[y]!) (d[x]!)))) (fun _ _ => Flow.kept_eqs _ _) (Flow.met_none rfl) (fun a W hH => ?_) ?_
    · have e0 := Flow.see_new 13 3 hH.sees (by kernel_rfl) (by kernel_rfl) rfl rfl
      have e1 := Flow.see_new 17 7 hH.sees (by kernel_rfl) (by kernel_rfl) rfl rfl
      refine Reg.wp_call rfl Try.func77 rfl (by kernel_rfl) (by simp [Act.eval, e0, e1]) (lessN (d[y]!) (d[x]!) W) ?_
      rintro e w' ⟨rfl, rfl⟩
      exact ⟨_, rfl, _, rfl, Ext.refl _, rfl⟩
    refine Flow.pass_end [none, none, none, none, none, none, none, none, none, none, some 10, some 11, some 12, some 13, some 14, some 15, some 16, some 17, some 18, none, none, none, none, none, none, none, none, none] (by kernel_rfl) ?_
    intro f gg w9 hB hfa hT hfg
    have h18 : f 18 = _ := (hfg 18 8 (by kernel_rfl)).trans (hT 8 _ (by kernel_rfl) rfl)
    exact hQ1 f w9 ⟨h18, (Below.refl w.heap.size w).drew.trans hB⟩
  intro f W5 ⟨h18, hBW5⟩
  simp only [Reg.sel, h18]
  have hN_W5 := Blk.below hN_w hBW5 (Blk.lt hN_w)
  have hC_W5 := hC_w.trans (Chg.of_ext hBW5)
  have hs5 := Blk.below hs hBW5 hs.lt
  clear h18 hBW5 hs
  cases hq : ltN d[y]! d[x]! with
  | true =>
    have cc : World.cell? W5 ⟨zb, 0, none⟩ = some (.int .i64 s) := (Blk.cell hs5 0).trans rfl
    have hfr := Blk.frozen hs5 0
    have hset := Blk.set_ hs5 0 (.int .i64 (wrap64 (s + 1)))
    have hset : Blk (W5.setCell ⟨zb, 0, none⟩ (.int .i64 (wrap64 (s + 1)))) zb 3 #[.int .i64 (wrap64 (s + 1))] := hset
    have hgr := s_grown W5 zb 0 (.int .i64 (wrap64 (s + 1)))
    go_wp2
    go_ret2
    have hCC := hC_W5.trans (Chg.grown (Z := OnlyG zb) hgr (by rintro j h; cases h; rfl))
    exact ⟨y, x, .inr ⟨rfl, rfl⟩, rfl, ⟨Blk.chg hN_W5 (Chg.grown (Z := OnlyG zb) hgr (by rintro j h; cases h; rfl)) (fun e => hne (Eq.symm e)), ⟨_, hset⟩, hne⟩, hCC⟩
  | false =>
    go_wp2
    go_ret2
    exact ⟨x, y, .inl ⟨rfl, rfl⟩, rfl, ⟨hN_W5, ⟨s, hs5⟩, hne⟩, hC_W5⟩
set_option maxRecDepth 100000 in
set_option maxHeartbeats 2000000 in
theorem median_walk (g : Nat) (R : List Value) (d : Array Nat) (n cap x y z zb : Nat) (hn : d.size = n) (hx : x < n) (hy : y < n) (hz : z < n) (hn5 : n ≤ 1000000) (w : World) (hV : PV w g d R zb) :
    Calls Try.prog 86 #[.slice (some ⟨g, 0, none⟩) n cap, .int .i64 (x : Int), .int .i64 (y : Int), .int .i64 (z : Int), .pointer (some ⟨zb, 0, none⟩)] w fun e w' =>
      ∃ p : Nat, (p = x ∨ p = y ∨ p = z) ∧ e = .returned (.int .i64 (p : Int)) ∧ PV w' g d R zb ∧ Chg (OnlyG zb) w w' := by
  go_enter Try.func86, Try.ntmps86
  go_wp2_with fail
  refine Calls.mono (order2_walk g R d n cap x y zb hn hx hy hn5 w hV) ?_
  rintro e W1 ⟨p1, q1, h1, rfl, hV1, hC1⟩
  go_wp2_with fail
  refine Calls.mono (order2_walk g R d n cap q1 z zb hn (by omega) hz hn5 W1 hV1) ?_
  rintro e W2 ⟨p2, q2, h2, rfl, hV2, hC2⟩
  go_wp2_with fail
  refine Calls.mono (order2_walk g R d n cap p1 p2 zb hn (by omega) (by omega) hn5 W2 hV2) ?_
  rintro e W3 ⟨p3, q3, h3, rfl, hV3, hC3⟩
  go_wp2
  go_ret
  exact ⟨q3, by omega, rfl, hV3, (hC1.trans hC2).trans hC3⟩
set_option maxRecDepth 100000 in
set_option maxHeartbeats 2000000 in
theorem medianAdj_walk (g : Nat) (R : List Value) (d : Array Nat) (n cap x zb : Nat) (hn : d.size = n) (hx : 1 ≤ x) (hx2 : x + 1 < n) (hn5 : n ≤ 1000000) (w : World) (hV : PV w g d R zb) :
    Calls Try.prog 85 #[.slice (some ⟨g, 0, none⟩) n cap, .int .i64 (x : Int), .pointer (some ⟨zb, 0, none⟩)] w fun e w' =>
      ∃ p : Nat, (x ≤ p + 1 ∧ p ≤ x + 1) ∧ e = .returned (.int .i64 (p : Int)) ∧ PV w' g d R zb ∧ Chg (OnlyG zb) w w' := by
  have h1 : IntKind.i64.wrap ((x : Int) - 1) = ((x - 1 : Nat) : Int) := by rw [IntWalk.i64_in _ (by omega)]; omega
  have h2 : IntKind.i64.wrap ((x : Int) + 1) = ((x + 1 : Nat) : Int) := by rw [IntWalk.i64_in _ (by omega)]; omega
  have hcall := median_walk g R d n cap (x - 1) x (x + 1) zb hn (by omega) (by omega) hx2 hn5 w hV
  obtain ⟨xm, hxm⟩ : ∃ m, x - 1 = m := ⟨_, rfl⟩
  obtain ⟨xp, hxp⟩ : ∃ m, x + 1 = m := ⟨_, rfl⟩
  rw [hxm] at h1 hcall
  rw [hxp] at h2 hcall
  have HM := Lib.hid hxm
  have HP := Lib.hid hxp
  clear hxm hxp
  go_enter Try.func85, Try.ntmps85
  go_wp2_with fail
  refine Calls.mono hcall ?_
  rintro e W1 ⟨p, hp, rfl, hV1, hC1⟩
  go_wp2
  go_ret
  exact ⟨p, by have := HM.out; have := HP.out; omega, rfl, hV1, hC1⟩
set_option maxRecDepth 100000 in
set_option maxHeartbeats 2000000 in
theorem choosePivot_walk (g : Nat) (R : List Value) (d : Array Nat) (n cap lo hi : Nat) (hn : d.size = n) (hlo : lo + 12 < hi) (hhi : hi ≤ n) (hn5 : n ≤ 1000000) (w : World) (hN : NR w g d R) :
    Calls Try.prog 74 #[.slice (some ⟨g, 0, none⟩) n cap, .int .i64 (lo : Int), .int .i64 (hi : Int)] w fun e w' =>
      ∃ (p : Nat) (h : Int), (lo ≤ p ∧ p < hi) ∧ (h = 0 ∨ h = 1 ∨ h = 2) ∧ e = .returned (.tuple #[.int .i64 (p : Int), .int .i64 h]) ∧ NR w' g d R ∧ Below w.heap.size w w' := by
  obtain ⟨L, hL⟩ : ∃ L, hi - lo = L := ⟨_, rfl⟩
  obtain ⟨Q, hQ⟩ : ∃ Q, L / 4 = Q := ⟨_, rfl⟩
  have hLi : IntKind.i64.wrap ((hi : Int) - (lo : Int)) = (L : Int) := by rw [IntWalk.i64_in _ (by omega)]; omega
  have hQi : (L : Int) / 4 = (Q : Int) := by omega
  have hQt : (L : Int).tdiv 4 = (Q : Int) := by rw [Int.tdiv_eq_ediv_of_nonneg (by omega)]; omega
  have k1 : IntKind.i64.wrap ((lo : Int) + (Q : Int)) = ((lo + Q : Nat) : Int) := by rw [IntWalk.i64_in _ (by omega)]; omega
  have k2 : IntKind.i64.wrap ((lo : Int) + (Q : Int) * 2) = ((lo + Q * 2 : Nat) : Int) := by rw [IntWalk.i64_in _ (by omega)]; omega
  have k3 : IntKind.i64.wrap ((lo : Int) + (Q : Int) * 3) = ((lo + Q * 3 : Nat) : Int) := by rw [IntWalk.i64_in _ (by omega)]; omega
  obtain ⟨i1, hi1⟩ : ∃ i, lo + Q = i := ⟨_, rfl⟩
  obtain ⟨j1, hj1⟩ : ∃ i, lo + Q * 2 = i := ⟨_, rfl⟩
  obtain ⟨k1', hk1'⟩ : ∃ i, lo + Q * 3 = i := ⟨_, rfl⟩
  rw [hi1] at k1
  rw [hj1] at k2
  rw [hk1'] at k3
  have k4 : IntKind.i64.wrap ((Q : Int) * 2) = (Q : Int) * 2 := IntWalk.i64_in _ (by omega)
  have k5 : IntKind.i64.wrap ((Q : Int) * 3) = (Q : Int) * 3 := IntWalk.i64_in _ (by omega)
  have k6 : IntKind.i64.wrap (Q : Int) = (Q : Int) := IntWalk.i64_in _ (by omega)
  have hb0 := Blk.new w 3 #[.int .i64 0]
  have hglt := hN.lt
  have B0 : Below w.heap.size w (w.alloc (.cells #[.int .i64 0] 3)) := (Below.refl _ _).alloc (Nat.le_refl _) _
  have hV0 : PV (w.alloc (.cells #[.int .i64 0] 3)) g d R w.heap.size := ⟨Blk.below hN B0 hN.lt, ⟨_, hb0⟩, by omega⟩
  have hL8 : (8 : Int) ≤ (L : Int) := by omega
  have hbel : ∀ W', Chg (OnlyG w.heap.size) (w.alloc (.cells #[.int .i64 0] 3)) W' → Below w.heap.size w W' := fun W' h => B0.trans (h.below (by rintro k rfl; exact Nat.le_refl _) B0.size)
  clear hN hb0 B0
  have HL := Lib.hid hL
  have HQ := Lib.hid hQ
  have hQ3 : 3 ≤ Q ∧ Q * 4 ≤ L ∧ lo + L = hi := by omega
  have HQ3 : Hid (3 ≤ Q ∧ Q * 4 ≤ L ∧ lo + L = hi ∧ lo + Q = i1 ∧ lo + Q * 2 = j1 ∧ lo + Q * 3 = k1') := Lib.hid (by omega)
  clear hL hQ hQ3 hi1 hj1 hk1'
  go_enter Try.func74, Try.ntmps74
  by_cases h50 : 50 ≤ L
  · have h50i : (50 : Int) ≤ (L : Int) := by omega
    go_wp2_with fail
    generalize w.alloc (.cells #[.int .i64 0] 3) = W0 at *
    have q3 := HQ3.out
    have hQ12 : 12 ≤ Q := by have := HQ.out; omega
    have q4 := Lib.hid q3
    have r1 : 1 ≤ i1 ∧ i1 + 1 < n ∧ 1 ≤ j1 ∧ j1 + 1 < n ∧ 1 ≤ k1' ∧ k1' + 1 < n := by omega
    have r2 : lo < i1 ∧ i1 + 1 < hi ∧ lo < j1 ∧ j1 + 1 < hi ∧ lo < k1' ∧ k1' + 1 < hi := by omega
    have R1 := Lib.hid r1
    have R2 := Lib.hid r2
    clear q3 q4 hQ12 r1 r2
    refine Calls.mono (medianAdj_walk g R d n cap i1 w.heap.size hn (by have := R1.out; omega) (by have := R1.out; omega) hn5 W0 hV0) ?_
    rintro e W1 ⟨pi, hpi, rfl, hV1, hC1⟩
    go_wp2_with fail
    refine Calls.mono (medianAdj_walk g R d n cap j1 w.heap.size hn (by have := R1.out; omega) (by have := R1.out; omega) hn5 W1 hV1) ?_
    rintro e W2 ⟨pj, hpj, rfl, hV2, hC2⟩
    go_wp2_with fail
    refine Calls.mono (medianAdj_walk g R d n cap k1' w.heap.size hn (by have := R1.out; omega) (by have := R1.out; omega) hn5 W2 hV2) ?_
    rintro e W3 ⟨pk, hpk, rfl, hV3, hC3⟩
    go_wp2_with fail
    refine Calls.mono (median_walk g R d n cap pi pj pk w.heap.size hn (by have := R1.out; omega) (by have := R1.out; omega) (by have := R1.out; omega) hn5 W3 hV3) ?_
    rintro e W4 ⟨p, hp, rfl, hV4, hC4⟩
    have hbel4 := hbel W4 (((hC1.trans hC2).trans hC3).trans hC4)
    have hpr : lo ≤ p ∧ p < hi := by have := R2.out; omega
    have hpr := Lib.hid hpr
    clear k1 k2 k3 k4 k5 k6 hQi hQt hLi
    obtain ⟨s, hs⟩ := hV4.cnt
    have cc : World.cell? W4 ⟨w.heap.size, 0, none⟩ = some (.int .i64 s) := (Blk.cell hs 0).trans rfl
    have hN9 := hV4.row
    by_cases hs0 : s = 0
    · subst hs0
      go_wp2
      go_ret2
      exact ⟨_, 1, hpr.out, .inr (.inl rfl), rfl, hN9, hbel4⟩
    · have hs0b : (s == 0) = false := by simpa using hs0
      by_cases hs1 : s = 12
      · subst hs1
        go_wp2
        go_ret2
        exact ⟨_, 2, hpr.out, .inr (.inr rfl), rfl, hN9, hbel4⟩
      · have hs1b : (s == 12) = false := by simpa using hs1
        go_wp2
        go_ret2
        exact ⟨_, 0, hpr.out, .inl rfl, rfl, hN9, hbel4⟩
  · have h50i : ¬ (50 : Int) ≤ (L : Int) := by omega
    go_wp2_with fail
    generalize w.alloc (.cells #[.int .i64 0] 3) = W0 at *
    have q3 := HQ3.out
    refine Calls.mono (median_walk g R d n cap i1 j1 k1' w.heap.size hn (by omega) (by omega) (by omega) hn5 W0 hV0) ?_
    rintro e W4 ⟨p, hp, rfl, hV4, hC4⟩
    have hbel4 := hbel W4 hC4
    have hpr : lo ≤ p ∧ p < hi := by omega
    have hpr := Lib.hid hpr
    clear k1 k2 k3 k4 k5 k6 hQi hQt hLi
    obtain ⟨s, hs⟩ := hV4.cnt
    have cc : World.cell? W4 ⟨w.heap.size, 0, none⟩ = some (.int .i64 s) := (Blk.cell hs 0).trans rfl
    have hN9 := hV4.row
    by_cases hs0 : s = 0
    · subst hs0
      go_wp2
      go_ret2
      exact ⟨_, 1, hpr.out, .inr (.inl rfl), rfl, hN9, hbel4⟩
    · have hs0b : (s == 0) = false := by simpa using hs0
      by_cases hs1 : s = 12
      · subst hs1
        go_wp2
        go_ret2
        exact ⟨_, 2, hpr.out, .inr (.inr rfl), rfl, hN9, hbel4⟩
      · have hs1b : (s == 12) = false := by simpa using hs1
        go_wp2
        go_ret2
        exact ⟨_, 0, hpr.out, .inl rfl, rfl, hN9, hbel4⟩
end Go.Proofs.Ytjfmgoickokbjaa
