/-
  Walk of the statement XmssSigs.
-/
import Derived.Test.YtnjfghlgknnhmaaSigE
import Derived.Test.YtnjfghlgknnhmaaXmssC
namespace Go.Proofs.Ytnjfghlgknnhmaa
open Go.RowKit

theorem sigVal_ok (l : List UInt8) (o : Nat) : (sigVal l o).ok := by
  have hz : zeroNode0.length = 32 := rfl
  unfold sigVal
  split
  · rename_i h
    simp only [sigOk, Bool.and_eq_true, beq_iff_eq, decide_eq_true_eq] at h
    have hh : hgt o ≤ 20 := by unfold hgt; split <;> (try split) <;> (try split) <;> omega
    refine ⟨rdNum_lt l 0 4 false, by simp; omega, ?_, ?_⟩
    · intro x hx
      simp only [nodesAt, List.mem_map, List.mem_range] at hx
      obtain ⟨k, hk, rfl⟩ := hx
      exact nodeAt_length l _ (by omega)
    · intro x hx
      simp only [nodesAt, List.mem_map, List.mem_range] at hx
      obtain ⟨k, hk, rfl⟩ := hx
      exact nodeAt_length l _ (by omega)
  · exact ⟨by show (0 : Nat) < 4294967296; omega, hz, by simp, by simp⟩
theorem sigVal_len (l : List UInt8) (o : Nat) : (sigVal l o).ots.length ≤ 67 ∧ (sigVal l o).auth.length ≤ 20 := by
  have hh : hgt o ≤ 20 := by unfold hgt; split <;> (try split) <;> (try split) <;> omega
  unfold sigVal
  split <;> simp [nodesAt, hh]

set_option maxRecDepth 100000 in
set_option maxHeartbeats 4000000 in
theorem xmssSigs_walk (w : World) (A : Option Addr) (n c : Nat) (l : List UInt8) (h : Rd w w.heap.size 1 A n (bcells l)) (hnc : n ≤ c) (_hc : c ≤ 9223372036854775807)
    (a1 : Int) (w1 : (Lit.int .u32 a1).wf = true) :
    Calls Try.prog 4 #[.slice A n c, .int .u32 a1] w fun e w' => e = .returned (.bool true) ∧ Below w.heap.size w w' := by
  obtain ⟨o, ho, rfl⟩ := wf_u32' w1
  clear w1
  have hzz : Hid (zsig.size = 35) := Lib.hid (by kernel_rfl)
  have ok := sigVal_ok l o
  have lens := sigVal_len l o
  have gm := fun W h => mSigOf_any A n c l o W h hnc
  have gr := fun W h hn => rSigOf_any A n c l o W h hn hnc
  generalize sigVal l o = G at *
  generalize sigErr l o = X at *
  go_enter Try.func4, Try.ntmps4
  go_wp2_with fail
  refine (awake08 w).mono ?_
  rintro e W1 ⟨rfl, B1⟩
  by_cases h3000 : n ≤ 3000
  · go_wp2_with fail
    refine (gm W1 ((h.below B1).more B1.size)).mono ?_
    rintro e W2 ⟨A1, k1, A2, k2, rfl, q1, q2, r1, r2, hB2⟩
    have B2 := B1.trans (hB2.mono B1.size)
    have hv35 : Hid ((sigCells G.i G.r (.slice A1 G.ots.length k1) (.slice A2 G.auth.length k2)).toArray.size = 35) := Lib.hid (sg35 _ _ _ _ ok.r)
    have hz2 := Blk.new W2 32 zsig
    go_wp2_with (first
      | ((with_reducible refine at_store 32 ?_); refine wpList_storeAll _ rfl 32 _ _ rfl W2.heap.size 32 _ (sigCells G.i G.r (.slice A1 G.ots.length k1) (.slice A2 G.auth.length k2)).toArray hz2 rfl rfl (by rw [hv35.out, hzz.out]) (by rw [hv35.out]; exact inf35) (sg35_one _ _ _ _ rfl rfl) ?_; intro W3 hb3 hg3 hs3)
      | fail)
    have B3 := grown_below (B2.alloc B2.size (.cells zsig 32)) hg3 (by simp; have := B2.size; omega) B2.size
    have hC3 := (Chg.of_ext (Z := fun b => b = W2.heap.size) ((Ext.refl W2).alloc (.cells zsig 32))).trans (Chg.grown hg3 (by rintro k h; cases h; rfl))
    have r1 := (r1.chg hC3 (Nat.le_refl _) (fun k e => by have e2 : k = W2.heap.size := e; omega)).more hC3.size
    have r2 := (r2.chg hC3 (Nat.le_refl _) (fun k e => by have e2 : k = W2.heap.size := e; omega)).more hC3.size
    clear hg3 hs3 hC3 hz2 hB2
    refine (gr W3 ((h.below B3).more B3.size) (by omega)).mono ?_
    rintro e W4 ⟨A3, k3, A4, k4, rfl, q3, q4, r3, r4, hB4⟩
    have B4 := B3.trans (hB4.mono B3.size)
    have hx := hb3.below hB4 hb3.lt
    have r1 := (r1.below hB4).more hB4.size
    have r2 := (r2.below hB4).more hB4.size
    have hlx := hx.lt
    have hv35' : Hid ((sigCells G.i G.r (.slice A3 G.ots.length k3) (.slice A4 G.auth.length k4)).toArray.size = 35) := Lib.hid (sg35 _ _ _ _ ok.r)
    have hz4 := Blk.new W4 32 zsig
    have B4' := B4.alloc B4.size (.cells zsig 32)
    go_wp2_with (first
      | ((with_reducible refine at_store 32 ?_); refine wpList_storeAll _ rfl 32 _ _ rfl W4.heap.size 32 _ (sigCells G.i G.r (.slice A3 G.ots.length k3) (.slice A4 G.auth.length k4)).toArray hz4 rfl rfl (by rw [hv35'.out, hzz.out]) (by rw [hv35'.out]; exact inf35) (sg35_one _ _ _ _ rfl rfl) ?_; intro W5 hb5 hg5 hs5;
          have hC5 := (Chg.of_ext (Z := fun b => b = W4.heap.size) ((Ext.refl W4).alloc (.cells zsig 32))).trans (Chg.grown hg5 (by rintro k h; cases h; rfl)); have hx5 := hx.chg hC5 (by show ¬ _ = _; omega))
      | ((with_reducible refine at_load 32 ?_); refine wpList_loadAllW W5 rfl 32 _ rfl W2.heap.size 32 _ hx5 _ rfl Try.underlying32 rfl (by rw [hv35.out]; exact inf35) ?_)
      | ((with_reducible refine at_load 32 ?_); refine wpList_loadAllW W5 rfl 32 _ rfl W4.heap.size 32 _ hb5 _ rfl Try.underlying32 rfl (by rw [hv35'.out]; exact inf35) ?_)
      | fail)
    have B5 := grown_below B4' hg5 (by simp; have := B4.size; omega) B4.size
    have s5 := hC5.size
    have rr := fun {size n : Nat} {A : Option Addr} {xs : List Value} (r : Rd W4 W4.heap.size size A n xs) => (r.chg hC5 (Nat.le_refl _) (fun k e => by have e2 : k = W4.heap.size := e; omega)).more s5
    refine (sameSig_same G ok A1 A2 A3 A4 k1 k2 k3 k4 W5 (by omega) (by omega) (rr r1) (rr r2) (rr r3) (rr r4)).mono ?_
    rintro e W6 ⟨rfl, hB6⟩
    go_wp2
    go_ret
    exact ⟨rfl, B5.trans (hB6.mono B5.size)⟩
  · go_wp2
    go_ret
    exact ⟨rfl, B1⟩
end Go.Proofs.Ytnjfghlgknnhmaa
