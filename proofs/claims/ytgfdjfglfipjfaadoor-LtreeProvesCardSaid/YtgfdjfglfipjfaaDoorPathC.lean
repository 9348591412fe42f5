/-
  Walk: the law LtreePaths.
-/
import Derived.Test.YtgfdjfglfipjfaaDoorPathB
import Derived.Test.YtgfdjfglfipjfaaDoorBA
namespace Go.Proofs.YtgfdjfglfipjfaaDoor
open Go.RowKit Sha

theorem pathN_all (sd : Nd) (ns : List Nd) (idx : Nat) (h : All32 ns) (h40 : ns.length ≤ 40) : All32 (pathN sd ns idx) ∧ (pathN sd ns idx).length ≤ 6 ∧ (pathR sd ns idx).length = 32 := by
  unfold pathN pathR
  split
  · rename_i ho
    unfold pathOk at ho
    rw [Bool.and_eq_true] at ho
    obtain ⟨k, hk, hp⟩ := lg_of ns.length (by omega) ho.1
    have hi : idx < 2 ^ k := by have := of_decide_eq_true ho.2; omega
    rw [hp, log2_pow k hk]
    refine ⟨fun x hx => ?_, by rw [authN_length]; omega, (lvl_all sd ns h k).at_ (by rw [lvl_length sd ns k hp k (Nat.le_refl _)]; exact Nat.two_pow_pos _)⟩
    simp only [authN, upto, List.mem_map, List.mem_range] at hx
    obtain ⟨j, hj, rfl⟩ := hx
    refine (lvl_all sd ns h j).at_ ?_
    rw [lvl_length sd ns k hp j (by omega)]
    have hq : idx / 2 ^ j < 2 ^ (k - j) := by
      rw [Nat.div_lt_iff_lt_mul (Nat.two_pow_pos j), ← Nat.pow_add, show k - j + j = k by omega]; exact hi
    rw [xor1]
    obtain ⟨m, hm⟩ : ∃ m, k - j = m + 1 := ⟨k - j - 1, by omega⟩
    rw [hm, Nat.pow_succ] at hq ⊢
    have hm0 := Nat.two_pow_pos m
    generalize idx / 2 ^ j = q at *
    generalize 2 ^ m = M at *
    split <;> omega
  · exact ⟨fun x hx => (by cases hx), by simp, by simp [znode]⟩

theorem _root_.Go.Proofs.YtgfdjfglfipjfaaDoor.Blk.grown1 {w w' : World} {g k : Nat} {t : TypeId} {cs : Array Value} (h : Blk w g t cs) (hg : w.grownBy w' (some k)) (hne : g ≠ k) : Blk w' g t cs :=
  (hg.block g h.lt (fun e => hne (Option.some.inj e))).trans h
theorem below_grown {B k : Nat} {w w1 w' : World} (h : Below B w w1) (hg : w1.grownBy w' (some k)) (hB : B ≤ w1.heap.size) (hk : B ≤ k) : Below B w w' := grown_below h hg hB hk

set_option maxRecDepth 100000 in
set_option maxHeartbeats 4000000 in
theorem ltreePaths_walk (w : World) (hT : Tabs w) (A : Option Addr) (n c : Nat) (ns : List (List UInt8)) (hn0 : n = ns.length) (hcc : n ≤ c) (hR : Rd w w.heap.size 32 A n (ncells ns)) (h32 : ∀ x ∈ ns, x.length = 32)
    (idx : Int) (wi : (Lit.int .u32 idx).wf = true) (sd : List UInt8) (hsd : sd.length = 32) :
    Calls Tryd.prog 6 #[.slice A n c, .int .u32 idx, .agg (bcells sd).toArray] w fun e w' => e = .returned (.bool true) ∧ Below w.heap.size w w' := by
  have hz := zeroNode
  obtain ⟨idx, hidx, rfl⟩ := u32_nat wi
  clear wi
  have hn := Lib.hid hn0
  have hn32 := Lib.hid h32
  have sdL := Lib.hid hsd
  have hs32 : Hid (zn.size = 32) := Lib.hid (by kernel_rfl)
  clear hn0 h32
  have hb_sd := Blk.new w 24 (bcells sd).toArray
  have B0 : Below w.heap.size w (w.alloc (.cells (bcells sd).toArray 24)) := (Below.refl _ _).alloc (Nat.le_refl _) _
  have hT0 := hT.alloc (.cells (bcells sd).toArray 24)
  clear hsd
  go_enter Tryd.func6, Tryd.ntmps6
  go_wp2_with fail
  generalize w.alloc (.cells (bcells sd).toArray 24) = W0 at *
  refine (awake07 W0 hT0).mono ?_
  rintro e W1 ⟨rfl, hB1⟩
  have hb_sd := hb_sd.below hB1 hb_sd.lt
  have hT1 := hT0.below hB1
  have B1 := B0.trans (hB1.mono B0.size)
  have hR1 := (hR.below B1).more B1.size
  clear B0 hB1 hT hT0 hR
  by_cases h40 : n ≤ 40
  · have h40' : ¬ (40 : Int) < (n : Int) := by omega
    go_wp2_with ((with_reducible refine at_load 24 ?_); refine wpList_runV rfl (reg_load 24 5 rfl rfl hb_sd Tryd.underlying24 rfl (by rw [List.size_toArray, bcells_length, sdL.out]; exact infNode)) ?_)
    refine (mpath_any sd sdL.out idx hidx A n c ns hn.out hn32.out h40 hcc W1 hR1 hT1).mono ?_
    obtain ⟨hall, hle, hRl⟩ := pathN_all sd ns idx hn32.out (by rw [← hn.out]; exact h40)
    obtain ⟨NS, hNS⟩ : ∃ NS, NS = pathN sd ns idx := ⟨_, rfl⟩
    obtain ⟨S, hS⟩ : ∃ S, S = pathR sd ns idx := ⟨_, rfl⟩
    obtain ⟨ok, hok⟩ : ∃ b, b = pathOk ns.length idx := ⟨_, rfl⟩
    have HPV : Hid (PathV = fun w sd ns idx e w' => ∃ A c, e = .returned (.tuple #[.slice A (pathN sd ns idx).length c, .agg (bcells (pathR sd ns idx)).toArray, .bool (pathOk ns.length idx)]) ∧ (pathN sd ns idx).length ≤ c ∧ Rd w' w'.heap.size 32 A (pathN sd ns idx).length (ncells (pathN sd ns idx)) ∧ Below w.heap.size w w') := Lib.hid rfl
    rw [← hNS] at hall hle
    rw [← hS] at hRl
    rintro e W2 ⟨A1, c1, rfl, hc1, hR2, hB2⟩
    rw [← hNS] at hc1 hR2 ⊢
    rw [← hS, ← hok]
    have HNS := Lib.hid hNS
    have HS := Lib.hid hS
    have Hok := Lib.hid hok
    have Hall := Lib.hid hall
    have HSl := Lib.hid hRl
    clear hNS hS hok hall hRl
    have hb2 := hb_sd.below hB2 hb_sd.lt
    have B2 := B1.trans (hB2.mono B1.size)
    have hR12 := (hR1.below hB2).more hB2.size
    clear hb_sd hT1 B1 hR1 hB2 h40'
    rcases ok with _ | _
    all_goals
      go_wp2_with (first
        | ((with_reducible refine at_store 24 ?_); refine wpList_storeAll _ rfl 24 _ _ rfl W2.heap.size 24 zn (bcells S).toArray (Blk.new W2 24 zn) rfl rfl (by rw [List.size_toArray, bcells_length, HSl.out, hs32.out]) (by rw [List.size_toArray, bcells_length, HSl.out]; exact infNode) (fun v hv => bcells_one _ v (by simpa using hv)) ?_; intro W3 hA3 hg hs; have hB23 := grown_below ((Below.refl W2.heap.size W2).alloc (Nat.le_refl _) (.cells zn 24)) hg (by simp) (Nat.le_refl _); have hb3 := hb2.below hB23 hb2.lt)
        | ((with_reducible refine at_load 24 ?_); refine wpList_runV rfl (reg_load 24 5 rfl rfl hb3 Tryd.underlying24 rfl (by rw [List.size_toArray, bcells_length, sdL.out]; exact infNode)) ?_))
      have hR3 := (hR12.below hB23).more hB23.size
      have hR13 := (hR2.below hB23).more hB23.size
      have B3 := B2.trans (hB23.mono B2.size)
      refine (rpath_any sd sdL.out idx hidx A n c ns hn.out hn32.out h40 W3 hR3).mono ?_
      rintro e W4 ⟨A2, c2, rfl, hc2, hR4, hB4⟩
      rw [← HNS.out] at hc2 hR4 ⊢
      rw [← HS.out, ← Hok.out]
      have hA4 := hA3.below hB4 hA3.lt
      have hR14 := (hR13.below hB4).more hB4.size
      have B4 := B3.trans (hB4.mono B3.size)
      clear hR3 hR13 hR12 hR2 hb2 hb3 hB23 hA3 hB4 B2 B3 Hok
      obtain ⟨gA, hgA⟩ : ∃ g, g = W2.heap.size := ⟨_, rfl⟩
      rw [← hgA] at hA4 ⊢
      clear hgA
      go_wp2_with (first
        | ((with_reducible refine at_store 24 ?_); refine wpList_storeAll _ rfl 24 _ _ rfl W4.heap.size 24 zn (bcells S).toArray (Blk.new W4 24 zn) rfl rfl (by rw [List.size_toArray, bcells_length, HSl.out, hs32.out]) (by rw [List.size_toArray, bcells_length, HSl.out]; exact infNode) (fun v hv => bcells_one _ v (by simpa using hv)) ?_; intro W5 hC5 hg hs; have hB45 := grown_below ((Below.refl W4.heap.size W4).alloc (Nat.le_refl _) (.cells zn 24)) hg (by simp) (Nat.le_refl _); have hA5 := hA4.below hB45 hA4.lt)
        | ((with_reducible refine at_load 24 ?_); refine wpList_loadAllW _ rfl 24 (.tmp 8) rfl gA 24 (bcells S).toArray hA5 _ rfl Tryd.underlying24 rfl (by rw [List.size_toArray, bcells_length, HSl.out]; exact infNode) ?_)
        | ((with_reducible refine at_load 24 ?_); refine wpList_loadAllW _ rfl 24 (.tmp 11) rfl W4.heap.size 24 (bcells S).toArray hC5 _ rfl Tryd.underlying24 rfl (by rw [List.size_toArray, bcells_length, HSl.out]; exact infNode) ?_)
        | ((with_reducible refine at_binT 24 ?_); refine wpList_eql _ rfl rfl (xs := (bcells S).toArray) (ys := (bcells S).toArray) rfl rfl nodeGuard (nodeEq S S HSl.out HSl.out _) ?_; rw [beq_self_eq_true]))
      have hR5 := (hR4.below hB45).more hB45.size
      have hR15 := (hR14.below hB45).more hB45.size
      have B5 := B4.trans (hB45.mono B4.size)
      refine (sameNodes_any A1 A2 NS.length c1 NS.length c2 NS NS Hall.out Hall.out W5 hR15 hR5 (by omega) (by omega)).mono ?_
      rintro e W6 ⟨rfl, hB6⟩
      rw [show (NS == NS) = true by simp]
      have B6 := B5.trans (hB6.mono B5.size)
      clear hR5 hR15 hR4 hR14 hA5 hC5 hB45 hA4 B4 B5 hB6
      go_wp2
      go_ret
      exact ⟨rfl, B6⟩
  · have h40' : (40 : Int) < (n : Int) := by omega
    go_wp2_with fail
    go_ret
    exact ⟨rfl, B1⟩
end Go.Proofs.YtgfdjfglfipjfaaDoor
