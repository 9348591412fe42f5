/-
  The walks of the statements WordBack, WordCats, WordAdds, WordAligns.
-/
import Derived.Test.YtebdehhamjlbpaaWordF
import Derived.Test.YtebdehhamjlbpaaNum2
namespace Go.Proofs.Ytebdehhamjlbpaa
open Go.RowKit

set_option maxHeartbeats 1000000 in
theorem wordBack_walk (w : World) (A : Option Addr) (n c : Nat) (l : List UInt8) (h : Rd w w.heap.size 1 A n (bcells l)) (_hnc : n ≤ c) (_hc : c ≤ 9223372036854775807) (a1 : Int) (w1 : (Lit.int .u32 a1).wf = true) (a2 : Int) (w2 : (Lit.int .u64 a2).wf = true) :
    Calls Try.prog 9 #[.slice A n c, .int .u32 a1, .int .u64 a2] w fun e w' => e = .returned (.bool true) ∧ Below w.heap.size w w' := by
  obtain ⟨x, hx, rfl⟩ := wf_u32 w1
  obtain ⟨m, hm, rfl⟩ := wf_u64 w2
  clear w1 w2
  by_cases hn : 500 < n
  · go_enter Try.func9, Try.ntmps9
    go_wp2_with (go_at_call 21; refine (awake01 _).mono ?_; rintro e w1 ⟨rfl, hB1⟩)
    go_ret
    exact ⟨rfl, hB1⟩
  · have hlen : n = l.length := by have := h.len; rw [bcells_length] at this; omega
    have HL := Lib.hid hlen; clear hlen
    go_enter Try.func9, Try.ntmps9
    go_wp2_with (go_at_call 21; refine (awake01 _).mono ?_; rintro e w1 ⟨rfl, B1⟩)
    have Ba1 := B1.alloc B1.size (.cells #[.int .u32 x] 22)
    refine (putBe32_any A n c l _ (some ⟨w1.heap.size, 0, none⟩) 1 1 [x] ((h.below Ba1).more Ba1.size) (by omega) ((Blk.new w1 22 #[.int .u32 x]).rd rfl) (by omega)).mono ?_
    rintro e w2 ⟨A2, c2, rfl, hO, hB⟩
    rw [putAll_one] at hO
    have r := Rd.of_own hO
    have B2 := Ba1.trans (hB.mono Ba1.size)
    clear hO hB Ba1 B1
    go_wp2_with fail
    refine (be32_any A2 (n + 4 * 1) c2 n (l ++ putNum x 4 false) w2 r (by omega)).mono ?_
    rintro e w' ⟨rfl, rfl⟩
    rw [show rdNum (l ++ putNum x 4 false) (n : Int) 4 false = x from by rw [HL.out]; exact read_put l x 4 false hx, show rdOk (l ++ putNum x 4 false) (n : Int) 4 = true from by rw [HL.out]; exact rdOk_put l x 4 false]
    clear r
    go_wp2_with fail
    have Ba2 := B2.alloc B2.size (.cells #[.int .u64 m] 23)
    refine (putBe64_any A n c l _ (some ⟨w2.heap.size, 0, none⟩) 1 1 [m] ((h.below Ba2).more Ba2.size) (by omega) ((Blk.new w2 23 #[.int .u64 m]).rd rfl) (by omega)).mono ?_
    rintro e w3 ⟨A3, c3, rfl, hO, hB⟩
    rw [putAll_one] at hO
    have r := Rd.of_own hO
    have B3 := Ba2.trans (hB.mono Ba2.size)
    clear hO hB Ba2 B2
    go_wp2_with fail
    refine (be64_any A3 (n + 8 * 1) c3 n (l ++ putNum m 8 false) w3 r (by omega)).mono ?_
    rintro e w' ⟨rfl, rfl⟩
    rw [show rdNum (l ++ putNum m 8 false) (n : Int) 8 false = m from by rw [HL.out]; exact read_put l m 8 false hm, show rdOk (l ++ putNum m 8 false) (n : Int) 8 = true from by rw [HL.out]; exact rdOk_put l m 8 false]
    clear r
    go_wp2_with fail
    have Ba3 := B3.alloc B3.size (.cells #[.int .u32 x] 22)
    refine (putLe32_any A n c l _ (some ⟨w3.heap.size, 0, none⟩) 1 1 [x] ((h.below Ba3).more Ba3.size) (by omega) ((Blk.new w3 22 #[.int .u32 x]).rd rfl) (by omega)).mono ?_
    rintro e w4 ⟨A4, c4, rfl, hO, hB⟩
    rw [putAll_one] at hO
    have r := Rd.of_own hO
    have B4 := Ba3.trans (hB.mono Ba3.size)
    clear hO hB Ba3 B3
    go_wp2_with fail
    refine (le32_any A4 (n + 4 * 1) c4 n (l ++ putNum x 4 true) w4 r (by omega)).mono ?_
    rintro e w' ⟨rfl, rfl⟩
    rw [show rdNum (l ++ putNum x 4 true) (n : Int) 4 true = x from by rw [HL.out]; exact read_put l x 4 true hx, show rdOk (l ++ putNum x 4 true) (n : Int) 4 = true from by rw [HL.out]; exact rdOk_put l x 4 true]
    clear r
    go_wp2_with fail
    have Ba4 := B4.alloc B4.size (.cells #[.int .u64 m] 23)
    refine (putLe64_any A n c l _ (some ⟨w4.heap.size, 0, none⟩) 1 1 [m] ((h.below Ba4).more Ba4.size) (by omega) ((Blk.new w4 23 #[.int .u64 m]).rd rfl) (by omega)).mono ?_
    rintro e w5 ⟨A5, c5, rfl, hO, hB⟩
    rw [putAll_one] at hO
    have r := Rd.of_own hO
    have B5 := Ba4.trans (hB.mono Ba4.size)
    clear hO hB Ba4 B4
    go_wp2_with fail
    refine (le64_any A5 (n + 8 * 1) c5 n (l ++ putNum m 8 true) w5 r (by omega)).mono ?_
    rintro e w' ⟨rfl, rfl⟩
    rw [show rdNum (l ++ putNum m 8 true) (n : Int) 8 true = m from by rw [HL.out]; exact read_put l m 8 true hm, show rdOk (l ++ putNum m 8 true) (n : Int) 8 = true from by rw [HL.out]; exact rdOk_put l m 8 true]
    clear r
    go_wp2
    go_ret
    exact ⟨by simp, B5⟩

set_option maxHeartbeats 1000000 in
theorem wordCats_walk (w : World) (A1 : Option Addr) (n1 c1 : Nat) (l1 : List UInt8) (h1 : Rd w w.heap.size 1 A1 n1 (bcells l1)) (_x1 : n1 ≤ c1) (_y1 : c1 ≤ 9223372036854775807)
    (A2 : Option Addr) (n2 c2 : Nat) (l2 : List UInt8) (h2 : Rd w w.heap.size 1 A2 n2 (bcells l2)) (_x2 : n2 ≤ c2) (_y2 : c2 ≤ 9223372036854775807)
    (A3 : Option Addr) (n3 c3 : Nat) (l3 : List UInt8) (h3 : Rd w w.heap.size 1 A3 n3 (bcells l3)) (_x3 : n3 ≤ c3) (_y3 : c3 ≤ 9223372036854775807) :
    Calls Try.prog 10 #[.slice A1 n1 c1, .slice A2 n2 c2, .slice A3 n3 c3] w fun e w' => e = .returned (.bool true) ∧ Below w.heap.size w w' := by
  by_cases hn : n1 ≤ 300 ∧ n2 ≤ 300 ∧ n3 ≤ 300
  · obtain ⟨hn1, hn2, hn3⟩ := hn
    go_enter Try.func10, Try.ntmps10
    go_wp2_with (go_at_call 21; refine (awake01 _).mono ?_; rintro e w1 ⟨rfl, B1⟩)
    have r1 := ((h1.below B1).more B1.size).drew
    have r2 := ((h2.below B1).more B1.size).drew
    have r3 := ((h3.below B1).more B1.size).drew
    clear h1 h2 h3
    have k1 : l1.length ≤ 300 := by have := r1.len; rw [bcells_length] at this; omega
    have k2 : l2.length ≤ 300 := by have := r2.len; rw [bcells_length] at this; omega
    have k3 : l3.length ≤ 300 := by have := r3.len; rw [bcells_length] at this; omega
    refine Reg.wp_region_pass (by kernel_rfl) (by kernel_rfl) ?_
    refine Reg.pass_old 0 (Reg.met_none rfl) (.inl rfl) (by kernel_rfl) (by kernel_rfl) rfl ?_
    refine Reg.pass_old 1 (Reg.met_none rfl) (.inl rfl) (by kernel_rfl) (by kernel_rfl) rfl ?_
    refine Reg.pass_old 2 (Reg.met_none rfl) (.inl rfl) (by kernel_rfl) (by kernel_rfl) rfl ?_
    apply Reg.pass_build (hm := (Reg.met_none rfl))
    · intro a w hE hS
      have e0 := Reg.see_new 22 0 hS (by kernel_rfl) (by kernel_rfl) rfl rfl
      have e1 := Reg.see_new 23 1 hS (by kernel_rfl) (by kernel_rfl) rfl rfl
      have e2 := Reg.see_new 24 2 hS (by kernel_rfl) (by kernel_rfl) rfl rfl
      go_simp; first | done | rfl | exact ⟨rfl, rfl⟩
    refine Reg.pass_step (Reg.bytesK (n1 + (n2 + (n3 + 0))) (l1 ++ (l2 ++ (l3 ++ [])))) (Reg.stable_bytes _ _) (Reg.met_none rfl) (fun a w hE hS => ?_) ?_
    · obtain ⟨b0, e0, q0⟩ := Reg.see_kind 25 3 hS (by kernel_rfl) (by kernel_rfl) rfl rfl
      refine Reg.wp_call rfl Try.func34 rfl (by kernel_rfl) (by simp [Act.eval, e0]) (cat_any (some ⟨b0, 0, none⟩) 3 3 [⟨A1, n1, c1, l1⟩, ⟨A2, n2, c2, l2⟩, ⟨A3, n3, c3, l3⟩] w (q0.rd rfl) (by intro b hb; simp only [List.mem_cons, List.not_mem_nil, or_false] at hb; rcases hb with rfl | rfl | rfl <;> first | exact r1.ext hE | exact r2.ext hE | exact r3.ext hE) (by simp [Bs.tot]; omega) (by omega)) ?_
      rintro e w' ⟨A9, c9, rfl, hO, hB⟩
      exact ⟨_, rfl, _, rfl, hB, A9, c9, rfl, Rd.of_own hO⟩
    refine Reg.pass_str 26 4 Try.underlying38 Try.underlying5 Try.underlying9 (Reg.met_none rfl) rfl (by kernel_rfl) (by kernel_rfl) rfl rfl ?_
    refine Reg.pass_oldK 0 (Reg.bytesK n1 l1) (Reg.stable_bytes _ _) (Reg.met_none rfl) (.inl rfl) (by kernel_rfl) (by kernel_rfl) rfl (⟨A1, c1, rfl, r1⟩) ?_
    refine Reg.pass_str 28 6 Try.underlying38 Try.underlying5 Try.underlying9 (Reg.met_none rfl) rfl (by kernel_rfl) (by kernel_rfl) rfl rfl ?_
    refine Reg.pass_oldK 1 (Reg.bytesK n2 l2) (Reg.stable_bytes _ _) (Reg.met_none rfl) (.inl rfl) (by kernel_rfl) (by kernel_rfl) rfl (⟨A2, c2, rfl, r2⟩) ?_
    refine Reg.pass_str 30 8 Try.underlying38 Try.underlying5 Try.underlying9 (Reg.met_none rfl) rfl (by kernel_rfl) (by kernel_rfl) rfl rfl ?_
    refine Reg.pass_val (.string ⟨(l1 ++ l2).toArray⟩) (Reg.met_none rfl) (fun a w hE hS => ?_) ?_
    · have e0 := Reg.see_new 29 7 hS (by kernel_rfl) (by kernel_rfl) rfl rfl
      have e1 := Reg.see_new 31 9 hS (by kernel_rfl) (by kernel_rfl) rfl rfl
      go_simp; rw [if_neg (by omega), ByteArray.mk_append_mk]
    refine Reg.pass_oldK 2 (Reg.bytesK n3 l3) (Reg.stable_bytes _ _) (Reg.met_none rfl) (.inl rfl) (by kernel_rfl) (by kernel_rfl) rfl (⟨A3, c3, rfl, r3⟩) ?_
    refine Reg.pass_str 33 11 Try.underlying38 Try.underlying5 Try.underlying9 (Reg.met_none rfl) rfl (by kernel_rfl) (by kernel_rfl) rfl rfl ?_
    refine Reg.pass_val (.string ⟨(l1 ++ (l2 ++ (l3 ++ []))).toArray⟩) (Reg.met_none rfl) (fun a w hE hS => ?_) ?_
    · have e0 := Reg.see_new 32 10 hS (by kernel_rfl) (by kernel_rfl) rfl rfl
      have e1 := Reg.see_new 34 12 hS (by kernel_rfl) (by kernel_rfl) rfl rfl
      go_simp; rw [if_neg (by omega), ByteArray.mk_append_mk, List.append_assoc]
    refine Reg.pass_val (.bool true) (Reg.met_none rfl) (fun a w hE hS => ?_) ?_
    · have e0 := Reg.see_new 27 5 hS (by kernel_rfl) (by kernel_rfl) rfl rfl
      have e1 := Reg.see_new 35 13 hS (by kernel_rfl) (by kernel_rfl) rfl rfl
      go_simp
    refine Reg.pass_copy 36 14 (Reg.met_none rfl) (.inl rfl) (by kernel_rfl) (by kernel_rfl) rfl rfl (by first | exact Reg.stable_eqs _ | exact Reg.stable_built _ _ _ | exact Reg.stable_bytes _ _) ?_
    refine Reg.pass_step (Reg.bytesK 0 []) (Reg.stable_bytes _ _) (Reg.met_some 15 true 37 rfl rfl (by kernel_rfl) (by kernel_rfl) rfl rfl) (fun a w hE hS => ?_) ?_
    · refine Reg.wp_call rfl Try.func34 rfl (by kernel_rfl) (by simp [Act.eval]) (cat_any none 0 0 [] w (Rd.nil _ _ _ _) (by simp) (by simp [Bs.tot]) (by omega)) ?_
      rintro e w' ⟨A9, c9, rfl, hO, hB⟩
      exact ⟨_, rfl, _, rfl, hB, A9, c9, rfl, Rd.of_own hO⟩
    apply Reg.pass_val (hm := (Reg.met_some 15 true 37 rfl rfl (by kernel_rfl) (by kernel_rfl) rfl rfl))
    · intro a w hE hS
      obtain ⟨A0, c0, e0, q0⟩ := Reg.see_kind 38 16 hS (by kernel_rfl) (by kernel_rfl) rfl rfl
      go_simp; first | done | rfl
    apply Reg.pass_val (hm := (Reg.met_some 15 true 37 rfl rfl (by kernel_rfl) (by kernel_rfl) rfl rfl))
    · intro a w hE hS
      have e0 := Reg.see_new 39 17 hS (by kernel_rfl) (by kernel_rfl) rfl rfl
      go_simp; first | done | rfl
    apply Reg.pass_val (hm := (Reg.met_none rfl))
    · intro a w hE hS
      have e0 := Reg.see_new 37 15 hS (by kernel_rfl) (by kernel_rfl) rfl rfl
      have e1 := Reg.see_new 40 18 hS (by kernel_rfl) (by kernel_rfl) rfl rfl
      go_simp; first | done | rfl
    refine Reg.pass_copy 41 19 (Reg.met_none rfl) (.inr rfl) (by kernel_rfl) (by kernel_rfl) rfl rfl (by first | exact Reg.stable_eqs _ | exact Reg.stable_built _ _ _ | exact Reg.stable_bytes _ _) ?_
    refine Reg.pass_end [none, none, none, none, none, none, some 6, none, none, none, none, none, none, none, none, none, none, none, none, none, none, none, some 22, some 23, some 24, some 25, some 26, some 27, some 28, some 29, some 30, some 31, some 32, some 33, some 34, some 35, some 36, some 37, some 38, some 39, some 40, some 41] (by kernel_rfl) ?_
    intro f w9 hE hf
    have h6 : f 6 = .bool true := hf 6 20 _ (by kernel_rfl) rfl
    have B9 := B1.drew.trans (hE.below B1.size)
    clear hf hE B1 r1 r2 r3
    simp only [Reg.sel, h6]
    go_wp2
    go_ret
    exact ⟨rfl, B9⟩
  · rcases (show 300 < n1 ∨ (n1 ≤ 300 ∧ 300 < n2) ∨ (n1 ≤ 300 ∧ n2 ≤ 300 ∧ 300 < n3) by omega) with q | ⟨q1, q2⟩ | ⟨q1, q2, q3⟩
    all_goals
      go_enter Try.func10, Try.ntmps10
      go_wp2_with (go_at_call 21; refine (awake01 _).mono ?_; rintro e w1 ⟨rfl, hB1⟩)
      go_ret
      exact ⟨rfl, hB1⟩
end Go.Proofs.Ytebdehhamjlbpaa
