/-
  Walks: adrs.Bytes, portreeveref04.Bytes: an address as bytes.
-/
import Derived.Test.YtapkhafgfbhkkaaDoorAdrsA
import Derived.Test.YtapkhafgfbhkkaaDoorEq
import Derived.Test.YtapkhafgfbhkkaaDoorStore
import Derived.Test.YtapkhafgfbhkkaaDoorWordC
namespace Go.Proofs.YtapkhafgfbhkkaaDoor
open Go.RowKit

def adBytes (l t k a b c m : Nat) : List UInt8 := putNum l 4 false ++ putNum t 8 false ++ putNum k 4 false ++ putNum a 4 false ++ putNum b 4 false ++ putNum c 4 false ++ putNum m 4 false
theorem adBytes_length (l t k a b c m : Nat) : (adBytes l t k a b c m).length = 32 := by simp [adBytes, putNum_length]

section
variable (l t k a b c m : Nat) (w : World)
set_option maxHeartbeats 1000000 in
theorem abytes_any : Calls Tryd.prog 45 #[.agg #[.int .u32 l, .int .u64 t, .int .u32 k, .int .u32 a, .int .u32 b, .int .u32 c, .int .u32 m]] w fun e w' => e = .returned (.agg (bcells (adBytes l t k a b c m)).toArray) ∧ Below w.heap.size w w' := by
  go_enter Tryd.func45, Tryd.ntmps45
  go_wp2_with (go_at_call 62; refine (aof_any l t k a b c m _).mono ?_; rintro e w1 ⟨rfl, hB⟩)
  have hb2 := (Blk.new (w.alloc (.cells #[.int .u32 l, .int .u64 t, .int .u32 k, .int .u32 a, .int .u32 b, .int .u32 c, .int .u32 m] 40)) 27 (Array.replicate 32 (.int .u8 0))).below hB (by simp)
  rw [World.size_alloc] at hb2
  have hb3 := (Blk.new w1 88 #[.int .u32 l, .int .u64 t, .int .u32 k, .int .u32 a, .int .u32 b, .int .u32 c, .int .u32 m]).drew
  have B1 : Below w.heap.size w w1 := (((Below.refl _ _).alloc (Nat.le_refl _) _).alloc (by simp) _).trans (hB.mono (by simp; omega))
  have B2 := (B1.alloc B1.size (.cells #[.int .u32 l, .int .u64 t, .int .u32 k, .int .u32 a, .int .u32 b, .int .u32 c, .int .u32 m] 88)).drew
  clear hB
  refine Reg.wp_region_pass (by kernel_rfl) (by kernel_rfl) ?_
  apply Reg.pass_val (hm := (Reg.met_none rfl))
  · intro a w hE hS
    have e0 := Reg.see_old 3 hS (by kernel_rfl) (by kernel_rfl) rfl
    go_simp; first | done | rfl
  apply Reg.pass_val (hm := (Reg.met_none rfl))
  · intro a w hE hS
    have e0 := Reg.see_new 7 0 hS (by kernel_rfl) (by kernel_rfl) rfl rfl
    go_simp; first | done | rfl
  apply Reg.pass_val (hm := (Reg.met_none rfl))
  · intro a w hE hS
    have e0 := Reg.see_new 8 1 hS (by kernel_rfl) (by kernel_rfl) rfl rfl
    have c0 := (hb3.ext hE).cell 0
    go_simp; first | done | rfl
  apply Reg.pass_build (hm := (Reg.met_none rfl))
  · intro a w hE hS
    have e0 := Reg.see_new 9 2 hS (by kernel_rfl) (by kernel_rfl) rfl rfl
    go_simp; first | done | rfl | exact ⟨rfl, rfl⟩
  refine Reg.pass_step (Reg.bytesK (0 + 4 * 1) ([] ++ putNum l 4 false)) (Reg.stable_bytes _ _) (Reg.met_none rfl) (fun a w hE hS => ?_) ?_
  · obtain ⟨b0, e0, q0⟩ := Reg.see_kind 10 3 hS (by kernel_rfl) (by kernel_rfl) rfl rfl
    refine Reg.wp_call rfl Tryd.func42 rfl (by kernel_rfl) (by simp [Act.eval, e0]) (putBe32_any none 0 0 [] w (some ⟨b0, 0, none⟩) 1 1 [l] (Rd.nil _ _ _ _) (by omega) (q0.rd rfl) (by omega)) ?_
    rintro e w' ⟨A9, c9, rfl, hO, hB⟩
    rw [putAll_one] at hO
    exact ⟨_, rfl, _, rfl, hB, A9, c9, rfl, Rd.of_own hO⟩
  apply Reg.pass_val (hm := (Reg.met_none rfl))
  · intro a w hE hS
    have e0 := Reg.see_old 3 hS (by kernel_rfl) (by kernel_rfl) rfl
    go_simp; first | done | rfl
  apply Reg.pass_val (hm := (Reg.met_none rfl))
  · intro a w hE hS
    have e0 := Reg.see_new 12 5 hS (by kernel_rfl) (by kernel_rfl) rfl rfl
    go_simp; first | done | rfl
  apply Reg.pass_val (hm := (Reg.met_none rfl))
  · intro a w hE hS
    have e0 := Reg.see_new 13 6 hS (by kernel_rfl) (by kernel_rfl) rfl rfl
    have c0 := (hb3.ext hE).cell 1
    go_simp; first | done | rfl
  apply Reg.pass_build (hm := (Reg.met_none rfl))
  · intro a w hE hS
    have e0 := Reg.see_new 14 7 hS (by kernel_rfl) (by kernel_rfl) rfl rfl
    go_simp; first | done | rfl | exact ⟨rfl, rfl⟩
  refine Reg.pass_step (Reg.bytesK (0 + 4 * 1 + 8 * 1) ([] ++ putNum l 4 false ++ putNum t 8 false)) (Reg.stable_bytes _ _) (Reg.met_none rfl) (fun a w hE hS => ?_) ?_
  · obtain ⟨A0, c0, e0, q0⟩ := Reg.see_kind 11 4 hS (by kernel_rfl) (by kernel_rfl) rfl rfl
    obtain ⟨b1, e1, q1⟩ := Reg.see_kind 15 8 hS (by kernel_rfl) (by kernel_rfl) rfl rfl
    refine Reg.wp_call rfl Tryd.func63 rfl (by kernel_rfl) (by simp [Act.eval, e0, e1]) (putBe64_any A0 (0 + 4 * 1) c0 _ w (some ⟨b1, 0, none⟩) 1 1 [t] q0 (by omega) (q1.rd rfl) (by omega)) ?_
    rintro e w' ⟨A9, c9, rfl, hO, hB⟩
    rw [putAll_one] at hO
    exact ⟨_, rfl, _, rfl, hB, A9, c9, rfl, Rd.of_own hO⟩
  refine Reg.pass_copy 16 9 (Reg.met_none rfl) (.inr rfl) (by kernel_rfl) (by kernel_rfl) rfl rfl (by first | exact Reg.stable_eqs _ | exact Reg.stable_built _ _ _ | exact Reg.stable_bytes _ _) ?_
  refine Reg.pass_end [none, none, none, none, some 4, none, none, some 7, some 8, some 9, some 10, some 11, some 12, some 13, some 14, some 15, some 16, none, none, none, none, none, none, none, none, none, none, none, none, none, none, none, none] (by kernel_rfl) ?_
  intro f w9 hE hf
  obtain ⟨A4, c4, h4, r4⟩ : Reg.bytesK (0 + 4 * 1 + 8 * 1) ([] ++ putNum l 4 false ++ putNum t 8 false) (f 4) w9 := hf 4 10 _ (by kernel_rfl) rfl
  have B9 := B2.trans (hE.below B2.size)
  have b3 := hb3.ext hE
  have s9 := hE.size
  have b2 : Blk w9 (w.heap.size + 1) 27 (Array.replicate 32 (.int .u8 0)) := (hb2.alloc (.cells #[.int .u32 l, .int .u64 t, .int .u32 k, .int .u32 a, .int .u32 b, .int .u32 c, .int .u32 m] 88)).drew.ext hE
  have c0 := b3.cell 2
  have c1 := b3.cell 3
  have c2 := b3.cell 4
  have c3 := b3.cell 5
  have c5 := b3.cell 6
  clear hf hE B2 B1 hb3 hb2 b3
  simp only [Reg.sel, h4]
  clear h4
  go_wp2_with fail
  have Ba := B9.alloc B9.size (.cells #[.int .u32 k, .int .u32 a, .int .u32 b, .int .u32 c, .int .u32 m] 22)
  refine (putBe32_any A4 12 c4 ([] ++ putNum l 4 false ++ putNum t 8 false) _ (some ⟨w9.heap.size, 0, none⟩) 5 5 [k, a, b, c, m] (r4.alloc (Nat.le_refl _) _ |>.more (by simp)) (by omega) ((Blk.new w9 22 #[.int .u32 k, .int .u32 a, .int .u32 b, .int .u32 c, .int .u32 m]).rd rfl) (by omega)).mono ?_
  rintro e w10 ⟨A5, c5', rfl, hO, hB⟩
  have hL : [] ++ putNum l 4 false ++ putNum t 8 false ++ putAll [k, a, b, c, m] 4 false = adBytes l t k a b c m := by simp [putAll, adBytes]
  rw [hL] at hO
  obtain ⟨g, rfl, hg, hg2, hcell, _⟩ := own_form hO (by omega)
  have hr : w10.rangeAt g 0 (bcells (adBytes l t k a b c m)) := fun j v hv => by rw [Nat.zero_add]; exact hcell j v hv
  have b3 := (b2.alloc (.cells #[.int .u32 k, .int .u32 a, .int .u32 b, .int .u32 c, .int .u32 m] 22)).below hB (by have := b2.lt; simp; omega)
  have B10 := Ba.trans (hB.mono Ba.size)
  have HL : Hid ((bcells (adBytes l t k a b c m)).length = 32) := Lib.hid (by rw [bcells_length, adBytes_length])
  clear hO hcell hB Ba B9 b2 c0 c1 c2 c3 c5 r4 hL
  have harr := fun W => run_arrayAt (P := Tryd.prog) W Tryd.underlying27 (some ⟨g, 0, none⟩) 32 c5' (Nat.le_refl _)
  go_wp2_with (first
    | (refine wpList_load_mid rfl 27 _ rfl g 0 rfl (bcells (adBytes l t k a b c m)) _ hr Tryd.underlying27 rfl (by rw [HL.out]; exact infNode) ?_)
    | (refine wpList_storeAll w10 rfl 27 _ _ rfl (w.heap.size + 1) _ _ _ b3 rfl rfl (by simpa using HL.out) (by rw [List.size_toArray, HL.out]; exact infNode) (by simpa using bcells_one _) ?_; intro w11 hb11 hg11 hs11))
  refine bodyPost_ret (results_cell_row rfl _ _ (w.heap.size + 1) _ _ _ _ rfl hb11 Tryd.underlying27 rfl (by rw [List.size_toArray, HL.out]; exact infNode)) rfl ⟨rfl, ?_⟩
  exact grown_below B10 hg11 B10.size (by omega)

set_option maxHeartbeats 1000000 in
theorem rbytes_any (hl : l < 4294967296) (hk : k < 4294967296) (ha : a < 4294967296) (hb : b < 4294967296) (hc : c < 4294967296) (hm : m < 4294967296) :
    Calls Tryd.prog 46 #[.agg #[.int .u32 l, .int .u64 t, .int .u32 k, .int .u32 a, .int .u32 b, .int .u32 c, .int .u32 m]] w fun e w' => e = .returned (.agg (bcells (adBytes l t k a b c m)).toArray) ∧ Below w.heap.size w w' := by
  go_enter Tryd.func46, Tryd.ntmps46
  go_wp2_with fail
  refine (rput_any none 0 0 false [] _ l 4 (Rd.nil _ _ _ _) (by omega) (by omega)).mono ?_
  rintro e w1 ⟨A1, c1, rfl, hO, hB⟩
  have hb2 := (Blk.new (w.alloc (.cells #[.int .u32 l, .int .u64 t, .int .u32 k, .int .u32 a, .int .u32 b, .int .u32 c, .int .u32 m] 40)) 27 (Array.replicate 32 (.int .u8 0))).below hB (by simp)
  rw [World.size_alloc] at hb2
  have hb1 := ((Blk.new w 40 #[.int .u32 l, .int .u64 t, .int .u32 k, .int .u32 a, .int .u32 b, .int .u32 c, .int .u32 m]).alloc (.cells (Array.replicate 32 (.int .u8 0)) 27)).below hB (by simp; omega)
  have B1 : Below w.heap.size w w1 := (((Below.refl _ _).alloc (Nat.le_refl _) _).alloc (by simp) _).trans (hB.mono (by simp; omega))
  have r1 := Rd.of_own hO
  have k0 := hb1.cell 1
  clear hB hO
  go_wp2_with fail
  refine (rput_any A1 (0 + 4) c1 false _ w1 t 8 r1 (by omega) (by omega)).mono ?_
  rintro e w2 ⟨A2, c2, rfl, hO, hB⟩
  have hb1 := hb1.below hB hb1.lt
  have hb2 := hb2.below hB hb2.lt
  have B2 := B1.trans (hB.mono B1.size)
  have r2 := Rd.of_own hO
  have q2 := hb1.cell 2
  have q3 := hb1.cell 3
  have q4 := hb1.cell 4
  have q5 := hb1.cell 5
  have q6 := hb1.cell 6
  clear hB hO B1 r1 k0
  have hbn := Blk.new w2 22 #[.int .u32 k, .int .u32 a, .int .u32 b, .int .u32 c, .int .u32 m]
  have hb2 := hb2.alloc (.cells #[.int .u32 k, .int .u32 a, .int .u32 b, .int .u32 c, .int .u32 m] 22)
  have B3 := B2.alloc B2.size (.cells #[.int .u32 k, .int .u32 a, .int .u32 b, .int .u32 c, .int .u32 m] 22)
  have r3 := (r2.alloc (Nat.le_refl _) (.cells #[.int .u32 k, .int .u32 a, .int .u32 b, .int .u32 c, .int .u32 m] 22)).more (Below.alloc (Below.refl w2.heap.size w2) (Nat.le_refl _) (.cells #[.int .u32 k, .int .u32 a, .int .u32 b, .int .u32 c, .int .u32 m] 22)).size
  obtain ⟨ns, hns⟩ : ∃ ns : List Nat, ns = [k, a, b, c, m] := ⟨_, rfl⟩
  have hcell : ∀ j, j < 5 → (#[.int .u32 k, .int .u32 a, .int .u32 b, .int .u32 c, .int .u32 m] : Array Value)[j]? = some (.int .u32 (ns[j]?.getD 0 : Nat)) ∧ ns[j]?.getD 0 < 4294967296 := by
    intro j hj
    subst hns
    rcases (show j = 0 ∨ j = 1 ∨ j = 2 ∨ j = 3 ∨ j = 4 by omega) with rfl | rfl | rfl | rfl | rfl
    all_goals exact ⟨rfl, by assumption⟩
  have HNS := Lib.hid hns
  have HC := Lib.hid hcell
  have hlt1 := hb2.lt
  have hlt2 := hb1.lt
  have s2 := B2.size
  clear hns hcell
  go_wp2
  clear q2 q3 q4 q5 q6 hb1 r2 B2
  go_loopw [3, 26] (fun o i wr => ∃ j : Nat, j ≤ 5 ∧ i = .int .i64 j ∧ ∃ A' c', o = .slice A' (12 + 4 * j) c' ∧ Rd wr wr.heap.size 1 A' (12 + 4 * j) (bcells ([] ++ putNum l 4 false ++ putNum t 8 false ++ putAll (ns.take j) 4 false)) ∧
      Blk wr w2.heap.size 22 #[.int .u32 k, .int .u32 a, .int .u32 b, .int .u32 c, .int .u32 m] ∧ Blk wr (w.heap.size + 1) 27 (Array.replicate 32 (.int .u8 0)) ∧ Below w.heap.size w wr ∧ w2.heap.size < wr.heap.size) (fun _ i _ => 5 - (intOf i).toNat)
  case atStart => exact ⟨0, Nat.zero_le _, rfl, A2, c2, rfl, by simpa [putAll] using r3, hbn, hb2, B3, by simp⟩
  case round =>
    obtain ⟨j, hj, rfl, A', c', rfl, hR, hN, hZ, hBr, hsr⟩ := hrel
    by_cases hlt : j < 5
    · have c1 : wr.cell? ⟨w2.heap.size, j, none⟩ = some (.int .u32 (ns[j]?.getD 0 : Nat)) := by rw [hN.cell]; exact (HC.out j hlt).1
      have hx := (HC.out j hlt).2
      have hjl : j < ns.length := by rw [HNS.out]; exact hlt
      have HS := Lib.hid (putAll_snoc ns 4 false j hjl)
      generalize ns[j]?.getD 0 = y at *
      go_wp2_with (go_at_call 44; refine (rput_any A' (12 + 4 * j) c' false _ wr y 4 hR (by omega) (by omega)).mono ?_; rintro e w5 ⟨A5, c5, rfl, hO, hB⟩)
      go_roundw
      case rel =>
        refine ⟨j + 1, by omega, by go_num, A5, c5, by rw [show 12 + 4 * (j + 1) = 12 + 4 * j + 4 by omega], ?_, hN.below hB (by omega), hZ.below hB hZ.lt, hBr.trans (hB.mono hBr.size), Nat.lt_of_lt_of_le hsr hB.size⟩
        have := Rd.of_own hO
        rw [HS.out, ← List.append_assoc, show 12 + 4 * (j + 1) = 12 + 4 * j + 4 by omega]
        exact this
      case measure => simp [intOf]; omega
    · obtain rfl : j = 5 := by omega
      have hL : [] ++ putNum l 4 false ++ putNum t 8 false ++ putAll (ns.take 5) 4 false = adBytes l t k a b c m := by rw [HNS.out]; simp [putAll, adBytes]
      rw [hL] at hR
      have HL : Hid ((bcells (adBytes l t k a b c m)).length = 32) := Lib.hid (by rw [bcells_length, adBytes_length])
      clear hL
      obtain ⟨g, off, rfl, hgb, hr⟩ := hR.range (by omega)
      have harr := fun W => run_arrayAt (P := Tryd.prog) W Tryd.underlying27 (some ⟨g, off, none⟩) 32 c' (Nat.le_refl _)
      clear hR hN hbn hb2 B3 r3
      go_wp2_with (first
        | (refine wpList_load_mid rfl 27 _ rfl g off rfl (bcells (adBytes l t k a b c m)) _ hr Tryd.underlying27 rfl (by rw [HL.out]; exact infNode) ?_)
        | (refine wpList_storeAll wr rfl 27 _ _ rfl (w.heap.size + 1) _ _ _ hZ rfl rfl (by simpa using HL.out) (by rw [List.size_toArray, HL.out]; exact infNode) (by simpa using bcells_one _) ?_; intro w11 hb11 hg11 hs11))
      refine bodyPost_ret (results_cell_row rfl _ _ (w.heap.size + 1) _ _ _ _ rfl hb11 Tryd.underlying27 rfl (by rw [List.size_toArray, HL.out]; exact infNode)) rfl ⟨rfl, ?_⟩
      exact grown_below hBr hg11 hBr.size (by omega)
end
end Go.Proofs.YtapkhafgfbhkkaaDoor
