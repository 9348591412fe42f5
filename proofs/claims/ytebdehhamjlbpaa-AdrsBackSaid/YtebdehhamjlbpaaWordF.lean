/-
  The walks of the statements WordReads, WordPuts, WordBack, WordCats.
-/
import Derived.Test.YtebdehhamjlbpaaWordE
import Derived.Test.YtebdehhamjlbpaaRegion
namespace Go.Proofs.Ytebdehhamjlbpaa
open Go.RowKit

set_option maxHeartbeats 1000000 in
theorem wordReads_walk (w : World) (A : Option Addr) (n c : Nat) (l : List UInt8) (h : Rd w w.heap.size 1 A n (bcells l)) (_hnc : n ≤ c) (_hc : c ≤ 9223372036854775807) (p : Int) (_wp : (Lit.int .i64 p).wf = true) :
    Calls Try.prog 7 #[.slice A n c, .int .i64 p] w fun e w' => e = .returned (.bool true) ∧ Below w.heap.size w w' := by
  by_cases hn : 500 < n
  · go_enter Try.func7, Try.ntmps7
    go_wp2_with (go_at_call 21; refine (awake01 _).mono ?_; rintro e w1 ⟨rfl, hB1⟩)
    go_ret
    exact ⟨rfl, hB1⟩
  · have b4 : ∀ low, rdNum l p 4 low < 4294967296 := fun low => rdNum_lt l p 4 low
    have q1 := b4 true
    have q2 := b4 false
    clear b4
    go_enter Try.func7, Try.ntmps7
    go_wp2_with (go_at_call 21; refine (awake01 _).mono ?_; rintro e w1 ⟨rfl, hB1⟩)
    have h1 := (h.belowm hB1 (Nat.le_refl _)).more hB1.size
    clear h
    refine (be32_any A n c p l w1 h1 (by omega)).mono ?_
    rintro e w' ⟨rfl, rfl⟩
    go_wp2_with fail
    refine (be64_any A n c p l w1 h1 (by omega)).mono ?_
    rintro e w' ⟨rfl, rfl⟩
    go_wp2_with fail
    refine (le32_any A n c p l w1 h1 (by omega)).mono ?_
    rintro e w' ⟨rfl, rfl⟩
    go_wp2_with fail
    refine (le64_any A n c p l w1 h1 (by omega)).mono ?_
    rintro e w' ⟨rfl, rfl⟩
    go_wp2_with fail
    refine (number_any A n c p false l w1 4 h1 (by omega) (by omega) (by omega)).mono ?_
    rintro e w' ⟨rfl, rfl⟩
    go_wp2_with fail
    refine (number_any A n c p false l w1 8 h1 (by omega) (by omega) (by omega)).mono ?_
    rintro e w' ⟨rfl, rfl⟩
    go_wp2_with fail
    refine (number_any A n c p true l w1 4 h1 (by omega) (by omega) (by omega)).mono ?_
    rintro e w' ⟨rfl, rfl⟩
    go_wp2_with fail
    refine (number_any A n c p true l w1 8 h1 (by omega) (by omega) (by omega)).mono ?_
    rintro e w' ⟨rfl, rfl⟩
    go_wp2
    go_ret
    exact ⟨by simp, hB1⟩

theorem putAll_two (x n : Nat) (low : Bool) : putAll [x, x] n low = putNum x n low ++ putNum x n low := by simp [putAll]
theorem putAll_one (x n : Nat) (low : Bool) : putAll [x] n low = putNum x n low := by simp [putAll]

set_option maxHeartbeats 1000000 in
theorem wordPuts_walk (w : World) (A : Option Addr) (n c : Nat) (l : List UInt8) (h : Rd w w.heap.size 1 A n (bcells l)) (_hnc : n ≤ c) (_hc : c ≤ 9223372036854775807) (a1 : Int) (w1 : (Lit.int .u32 a1).wf = true) (a2 : Int) (w2 : (Lit.int .u64 a2).wf = true) :
    Calls Try.prog 8 #[.slice A n c, .int .u32 a1, .int .u64 a2] w fun e w' => e = .returned (.bool true) ∧ Below w.heap.size w w' := by
  obtain ⟨x, hx, rfl⟩ := wf_u32 w1
  obtain ⟨m, hm, rfl⟩ := wf_u64 w2
  clear w1 w2
  by_cases hn : 500 < n
  · go_enter Try.func8, Try.ntmps8
    go_wp2_with (go_at_call 21; refine (awake01 _).mono ?_; rintro e w1 ⟨rfl, hB1⟩)
    go_ret
    exact ⟨rfl, hB1⟩
  · go_enter Try.func8, Try.ntmps8
    go_wp2_with (go_at_call 21; refine (awake01 _).mono ?_; rintro e w1 ⟨rfl, hB1⟩)
    have h1 := (h.below hB1).more hB1.size
    refine (rput_any A n c false l w1 x 4 h1 (by omega) (by omega)).mono ?_
    rintro e w2 ⟨A2, c2, rfl, hO2, hB2⟩
    have r2 := Rd.of_own hO2
    have B2 := hB1.trans (hB2.mono hB1.size)
    clear hO2 hB2 h1
    go_wp2_with fail
    refine (rput_any A2 (n + 4) c2 false _ w2 x 4 r2 (by omega) (by omega)).mono ?_
    rintro e w3 ⟨A3, c3, rfl, hO3, hB3⟩
    have r3 := Rd.of_own hO3
    have B3 := B2.trans (hB3.mono B2.size)
    clear hO3 r2 hB3 B2 hB1
    go_wp2_with fail
    refine (rput_any A n c false l w3 m 8 ((h.below B3).more B3.size) (by omega) (by omega)).mono ?_
    rintro e w4 ⟨A4, c4, rfl, hO4, hB4⟩
    have r4 := Rd.of_own hO4
    have r3' := (r3.below hB4).more hB4.size
    have B4 := B3.trans (hB4.mono B3.size)
    clear hO4 hB4 B3 r3
    have hr := ((h.below B4).more B4.size).drew
    clear h
    go_wp2_with fail
    have hwx : IntKind.u64.wrap (x : Int) = x := IntWalk.u64_in _ (by omega)
    refine Reg.wp_region_pass (by kernel_rfl) (by kernel_rfl) ?_
    refine Reg.pass_old 0 (Reg.met_none rfl) (.inl rfl) (by kernel_rfl) (by kernel_rfl) rfl ?_
    refine Reg.pass_old 1 (Reg.met_none rfl) (.inl rfl) (by kernel_rfl) (by kernel_rfl) rfl ?_
    refine Reg.pass_old 1 (Reg.met_none rfl) (.inl rfl) (by kernel_rfl) (by kernel_rfl) rfl ?_
    apply Reg.pass_build (hm := (Reg.met_none rfl))
    · intro a w hE hS
      have e0 := Reg.see_new 25 1 hS (by kernel_rfl) (by kernel_rfl) rfl rfl
      have e1 := Reg.see_new 26 2 hS (by kernel_rfl) (by kernel_rfl) rfl rfl
      go_simp; first | done | rfl | exact ⟨rfl, rfl⟩
    refine Reg.pass_step (Reg.bytesK (n + 4 * 2) (l ++ putNum x 4 false ++ putNum x 4 false)) (Reg.stable_bytes _ _) (Reg.met_none rfl) (fun a w hE hS => ?_) ?_
    · have e0 := Reg.see_new 24 0 hS (by kernel_rfl) (by kernel_rfl) rfl rfl
      obtain ⟨b1, e1, q1⟩ := Reg.see_kind 27 3 hS (by kernel_rfl) (by kernel_rfl) rfl rfl
      refine Reg.wp_call rfl Try.func30 rfl (by kernel_rfl) (by simp [Act.eval, e0, e1]) (putBe32_any A n c l w (some ⟨b1, 0, none⟩) 2 2 [x, x] (hr.ext hE) (by omega) (q1.rd rfl) (by omega)) ?_
      rintro e w' ⟨A9, c9, rfl, hO, hB⟩
      rw [putAll_two, ← List.append_assoc] at hO
      exact ⟨_, rfl, _, rfl, hB, A9, c9, rfl, Rd.of_own hO⟩
    refine Reg.pass_str 28 4 Try.underlying38 Try.underlying5 Try.underlying9 (Reg.met_none rfl) rfl (by kernel_rfl) (by kernel_rfl) rfl rfl ?_
    refine Reg.pass_oldK 7 (Reg.bytesK (n + 4 + 4) _) (Reg.stable_bytes _ _) (Reg.met_none rfl) (.inl rfl) (by kernel_rfl) (by kernel_rfl) rfl (⟨A3, c3, rfl, r3'.drew⟩) ?_
    refine Reg.pass_str 30 6 Try.underlying38 Try.underlying5 Try.underlying9 (Reg.met_none rfl) rfl (by kernel_rfl) (by kernel_rfl) rfl rfl ?_
    apply Reg.pass_val (hm := (Reg.met_none rfl))
    · intro a w hE hS
      have e0 := Reg.see_new 29 5 hS (by kernel_rfl) (by kernel_rfl) rfl rfl
      have e1 := Reg.see_new 31 7 hS (by kernel_rfl) (by kernel_rfl) rfl rfl
      go_simp; first | done | rfl
    refine Reg.pass_copy 32 8 (Reg.met_none rfl) (.inl rfl) (by kernel_rfl) (by kernel_rfl) rfl rfl (by first | exact Reg.stable_eqs _ | exact Reg.stable_built _ _ _ | exact Reg.stable_bytes _ _) ?_
    refine Reg.pass_old 0 (Reg.met_some 9 true 33 rfl rfl (by kernel_rfl) (by kernel_rfl) rfl rfl) (.inl rfl) (by kernel_rfl) (by kernel_rfl) rfl ?_
    refine Reg.pass_old 2 (Reg.met_some 9 true 33 rfl rfl (by kernel_rfl) (by kernel_rfl) rfl rfl) (.inl rfl) (by kernel_rfl) (by kernel_rfl) rfl ?_
    apply Reg.pass_build (hm := (Reg.met_some 9 true 33 rfl rfl (by kernel_rfl) (by kernel_rfl) rfl rfl))
    · intro a w hE hS
      have e0 := Reg.see_new 35 11 hS (by kernel_rfl) (by kernel_rfl) rfl rfl
      go_simp; first | done | rfl | exact ⟨rfl, rfl⟩
    refine Reg.pass_step (Reg.bytesK (n + 8 * 1) (l ++ putNum m 8 false)) (Reg.stable_bytes _ _) (Reg.met_some 9 true 33 rfl rfl (by kernel_rfl) (by kernel_rfl) rfl rfl) (fun a w hE hS => ?_) ?_
    · have e0 := Reg.see_new 34 10 hS (by kernel_rfl) (by kernel_rfl) rfl rfl
      obtain ⟨b1, e1, q1⟩ := Reg.see_kind 36 12 hS (by kernel_rfl) (by kernel_rfl) rfl rfl
      refine Reg.wp_call rfl Try.func31 rfl (by kernel_rfl) (by simp [Act.eval, e0, e1]) (putBe64_any A n c l w (some ⟨b1, 0, none⟩) 1 1 [m] (hr.ext hE) (by omega) (q1.rd rfl) (by omega)) ?_
      rintro e w' ⟨A9, c9, rfl, hO, hB⟩
      rw [putAll_one] at hO
      exact ⟨_, rfl, _, rfl, hB, A9, c9, rfl, Rd.of_own hO⟩
    refine Reg.pass_str 37 13 Try.underlying38 Try.underlying5 Try.underlying9 (Reg.met_some 9 true 33 rfl rfl (by kernel_rfl) (by kernel_rfl) rfl rfl) rfl (by kernel_rfl) (by kernel_rfl) rfl rfl ?_
    refine Reg.pass_oldK 8 (Reg.bytesK (n + 8) _) (Reg.stable_bytes _ _) (Reg.met_some 9 true 33 rfl rfl (by kernel_rfl) (by kernel_rfl) rfl rfl) (.inl rfl) (by kernel_rfl) (by kernel_rfl) rfl (⟨A4, c4, rfl, r4.drew⟩) ?_
    refine Reg.pass_str 39 15 Try.underlying38 Try.underlying5 Try.underlying9 (Reg.met_some 9 true 33 rfl rfl (by kernel_rfl) (by kernel_rfl) rfl rfl) rfl (by kernel_rfl) (by kernel_rfl) rfl rfl ?_
    apply Reg.pass_val (hm := (Reg.met_some 9 true 33 rfl rfl (by kernel_rfl) (by kernel_rfl) rfl rfl))
    · intro a w hE hS
      have e0 := Reg.see_new 38 14 hS (by kernel_rfl) (by kernel_rfl) rfl rfl
      have e1 := Reg.see_new 40 16 hS (by kernel_rfl) (by kernel_rfl) rfl rfl
      go_simp; first | done | rfl
    apply Reg.pass_val (hm := (Reg.met_none rfl))
    · intro a w hE hS
      have e0 := Reg.see_new 33 9 hS (by kernel_rfl) (by kernel_rfl) rfl rfl
      have e1 := Reg.see_new 41 17 hS (by kernel_rfl) (by kernel_rfl) rfl rfl
      go_simp; first | done | rfl
    refine Reg.pass_copy 42 18 (Reg.met_none rfl) (.inl rfl) (by kernel_rfl) (by kernel_rfl) rfl rfl (by first | exact Reg.stable_eqs _ | exact Reg.stable_built _ _ _ | exact Reg.stable_bytes _ _) ?_
    refine Reg.pass_old 0 (Reg.met_some 19 true 43 rfl rfl (by kernel_rfl) (by kernel_rfl) rfl rfl) (.inl rfl) (by kernel_rfl) (by kernel_rfl) rfl ?_
    refine Reg.pass_old 1 (Reg.met_some 19 true 43 rfl rfl (by kernel_rfl) (by kernel_rfl) rfl rfl) (.inl rfl) (by kernel_rfl) (by kernel_rfl) rfl ?_
    apply Reg.pass_build (hm := (Reg.met_some 19 true 43 rfl rfl (by kernel_rfl) (by kernel_rfl) rfl rfl))
    · intro a w hE hS
      have e0 := Reg.see_new 45 21 hS (by kernel_rfl) (by kernel_rfl) rfl rfl
      go_simp; first | done | rfl | exact ⟨rfl, rfl⟩
    refine Reg.pass_step (Reg.bytesK (n + 4 * 1) (l ++ putNum x 4 true)) (Reg.stable_bytes _ _) (Reg.met_some 19 true 43 rfl rfl (by kernel_rfl) (by kernel_rfl) rfl rfl) (fun a w hE hS => ?_) ?_
    · have e0 := Reg.see_new 44 20 hS (by kernel_rfl) (by kernel_rfl) rfl rfl
      obtain ⟨b1, e1, q1⟩ := Reg.see_kind 46 22 hS (by kernel_rfl) (by kernel_rfl) rfl rfl
      refine Reg.wp_call rfl Try.func32 rfl (by kernel_rfl) (by simp [Act.eval, e0, e1]) (putLe32_any A n c l w (some ⟨b1, 0, none⟩) 1 1 [x] (hr.ext hE) (by omega) (q1.rd rfl) (by omega)) ?_
      rintro e w' ⟨A9, c9, rfl, hO, hB⟩
      rw [putAll_one] at hO
      exact ⟨_, rfl, _, rfl, hB, A9, c9, rfl, Rd.of_own hO⟩
    refine Reg.pass_str 47 23 Try.underlying38 Try.underlying5 Try.underlying9 (Reg.met_some 19 true 43 rfl rfl (by kernel_rfl) (by kernel_rfl) rfl rfl) rfl (by kernel_rfl) (by kernel_rfl) rfl rfl ?_
    refine Reg.pass_old 0 (Reg.met_some 19 true 43 rfl rfl (by kernel_rfl) (by kernel_rfl) rfl rfl) (.inl rfl) (by kernel_rfl) (by kernel_rfl) rfl ?_
    refine Reg.pass_old 1 (Reg.met_some 19 true 43 rfl rfl (by kernel_rfl) (by kernel_rfl) rfl rfl) (.inl rfl) (by kernel_rfl) (by kernel_rfl) rfl ?_
    apply Reg.pass_val (hm := (Reg.met_some 19 true 43 rfl rfl (by kernel_rfl) (by kernel_rfl) rfl rfl))
    · intro a w hE hS
      have e0 := Reg.see_new 50 26 hS (by kernel_rfl) (by kernel_rfl) rfl rfl
      go_simp; first | done | rfl
    refine Reg.pass_step (Reg.bytesK (n + 4) (l ++ putNum x 4 true)) (Reg.stable_bytes _ _) (Reg.met_some 19 true 43 rfl rfl (by kernel_rfl) (by kernel_rfl) rfl rfl) (fun a w hE hS => ?_) ?_
    · have e0 := Reg.see_new 49 25 hS (by kernel_rfl) (by kernel_rfl) rfl rfl
      have e1 := Reg.see_new 51 27 hS (by kernel_rfl) (by kernel_rfl) rfl rfl
      refine Reg.wp_call rfl Try.func29 rfl (by kernel_rfl) (by simp [Act.eval, e0, e1]) (rput_any A n c true l w x 4 (hr.ext hE) (by omega) (by omega)) ?_
      rintro e w' ⟨A9, c9, rfl, hO, hB⟩
      exact ⟨_, rfl, _, rfl, hB, A9, c9, rfl, Rd.of_own hO⟩
    refine Reg.pass_str 52 28 Try.underlying38 Try.underlying5 Try.underlying9 (Reg.met_some 19 true 43 rfl rfl (by kernel_rfl) (by kernel_rfl) rfl rfl) rfl (by kernel_rfl) (by kernel_rfl) rfl rfl ?_
    apply Reg.pass_val (hm := (Reg.met_some 19 true 43 rfl rfl (by kernel_rfl) (by kernel_rfl) rfl rfl))
    · intro a w hE hS
      have e0 := Reg.see_new 48 24 hS (by kernel_rfl) (by kernel_rfl) rfl rfl
      have e1 := Reg.see_new 53 29 hS (by kernel_rfl) (by kernel_rfl) rfl rfl
      go_simp; first | done | rfl
    apply Reg.pass_val (hm := (Reg.met_none rfl))
    · intro a w hE hS
      have e0 := Reg.see_new 43 19 hS (by kernel_rfl) (by kernel_rfl) rfl rfl
      have e1 := Reg.see_new 54 30 hS (by kernel_rfl) (by kernel_rfl) rfl rfl
      go_simp; first | done | rfl
    refine Reg.pass_copy 55 31 (Reg.met_none rfl) (.inl rfl) (by kernel_rfl) (by kernel_rfl) rfl rfl (by first | exact Reg.stable_eqs _ | exact Reg.stable_built _ _ _ | exact Reg.stable_bytes _ _) ?_
    refine Reg.pass_old 0 (Reg.met_some 32 true 56 rfl rfl (by kernel_rfl) (by kernel_rfl) rfl rfl) (.inl rfl) (by kernel_rfl) (by kernel_rfl) rfl ?_
    refine Reg.pass_old 2 (Reg.met_some 32 true 56 rfl rfl (by kernel_rfl) (by kernel_rfl) rfl rfl) (.inl rfl) (by kernel_rfl) (by kernel_rfl) rfl ?_
    apply Reg.pass_build (hm := (Reg.met_some 32 true 56 rfl rfl (by kernel_rfl) (by kernel_rfl) rfl rfl))
    · intro a w hE hS
      have e0 := Reg.see_new 58 34 hS (by kernel_rfl) (by kernel_rfl) rfl rfl
      go_simp; first | done | rfl | exact ⟨rfl, rfl⟩
    refine Reg.pass_step (Reg.bytesK (n + 8 * 1) (l ++ putNum m 8 true)) (Reg.stable_bytes _ _) (Reg.met_some 32 true 56 rfl rfl (by kernel_rfl) (by kernel_rfl) rfl rfl) (fun a w hE hS => ?_) ?_
    · have e0 := Reg.see_new 57 33 hS (by kernel_rfl) (by kernel_rfl) rfl rfl
      obtain ⟨b1, e1, q1⟩ := Reg.see_kind 59 35 hS (by kernel_rfl) (by kernel_rfl) rfl rfl
      refine Reg.wp_call rfl Try.func33 rfl (by kernel_rfl) (by simp [Act.eval, e0, e1]) (putLe64_any A n c l w (some ⟨b1, 0, none⟩) 1 1 [m] (hr.ext hE) (by omega) (q1.rd rfl) (by omega)) ?_
      rintro e w' ⟨A9, c9, rfl, hO, hB⟩
      rw [putAll_one] at hO
      exact ⟨_, rfl, _, rfl, hB, A9, c9, rfl, Rd.of_own hO⟩
    refine Reg.pass_str 60 36 Try.underlying38 Try.underlying5 Try.underlying9 (Reg.met_some 32 true 56 rfl rfl (by kernel_rfl) (by kernel_rfl) rfl rfl) rfl (by kernel_rfl) (by kernel_rfl) rfl rfl ?_
    refine Reg.pass_old 0 (Reg.met_some 32 true 56 rfl rfl (by kernel_rfl) (by kernel_rfl) rfl rfl) (.inl rfl) (by kernel_rfl) (by kernel_rfl) rfl ?_
    refine Reg.pass_old 2 (Reg.met_some 32 true 56 rfl rfl (by kernel_rfl) (by kernel_rfl) rfl rfl) (.inl rfl) (by kernel_rfl) (by kernel_rfl) rfl ?_
    refine Reg.pass_step (Reg.bytesK (n + 8) (l ++ putNum m 8 true)) (Reg.stable_bytes _ _) (Reg.met_some 32 true 56 rfl rfl (by kernel_rfl) (by kernel_rfl) rfl rfl) (fun a w hE hS => ?_) ?_
    · have e0 := Reg.see_new 62 38 hS (by kernel_rfl) (by kernel_rfl) rfl rfl
      have e1 := Reg.see_new 63 39 hS (by kernel_rfl) (by kernel_rfl) rfl rfl
      refine Reg.wp_call rfl Try.func29 rfl (by kernel_rfl) (by simp [Act.eval, e0, e1]) (rput_any A n c true l w m 8 (hr.ext hE) (by omega) (by omega)) ?_
      rintro e w' ⟨A9, c9, rfl, hO, hB⟩
      exact ⟨_, rfl, _, rfl, hB, A9, c9, rfl, Rd.of_own hO⟩
    refine Reg.pass_str 64 40 Try.underlying38 Try.underlying5 Try.underlying9 (Reg.met_some 32 true 56 rfl rfl (by kernel_rfl) (by kernel_rfl) rfl rfl) rfl (by kernel_rfl) (by kernel_rfl) rfl rfl ?_
    apply Reg.pass_val (hm := (Reg.met_some 32 true 56 rfl rfl (by kernel_rfl) (by kernel_rfl) rfl rfl))
    · intro a w hE hS
      have e0 := Reg.see_new 61 37 hS (by kernel_rfl) (by kernel_rfl) rfl rfl
      have e1 := Reg.see_new 65 41 hS (by kernel_rfl) (by kernel_rfl) rfl rfl
      go_simp; first | done | rfl
    apply Reg.pass_val (hm := (Reg.met_none rfl))
    · intro a w hE hS
      have e0 := Reg.see_new 56 32 hS (by kernel_rfl) (by kernel_rfl) rfl rfl
      have e1 := Reg.see_new 66 42 hS (by kernel_rfl) (by kernel_rfl) rfl rfl
      go_simp; first | done | rfl
    refine Reg.pass_copy 67 43 (Reg.met_none rfl) (.inl rfl) (by kernel_rfl) (by kernel_rfl) rfl rfl (by first | exact Reg.stable_eqs _ | exact Reg.stable_built _ _ _ | exact Reg.stable_bytes _ _) ?_
    refine Reg.pass_old 0 (Reg.met_some 44 true 68 rfl rfl (by kernel_rfl) (by kernel_rfl) rfl rfl) (.inl rfl) (by kernel_rfl) (by kernel_rfl) rfl ?_
    refine Reg.pass_step (Reg.bytesK (n + 8 * 0) l) (Reg.stable_bytes _ _) (Reg.met_some 44 true 68 rfl rfl (by kernel_rfl) (by kernel_rfl) rfl rfl) (fun a w hE hS => ?_) ?_
    · have e0 := Reg.see_new 69 45 hS (by kernel_rfl) (by kernel_rfl) rfl rfl
      refine Reg.wp_call rfl Try.func31 rfl (by kernel_rfl) (by simp [Act.eval, e0]) (putBe64_any A n c l w none 0 0 [] (hr.ext hE) (by omega) (Rd.nil _ _ _ _) (by omega)) ?_
      rintro e w' ⟨A9, c9, rfl, hO, hB⟩
      rw [show putAll [] 8 false = [] from rfl, List.append_nil] at hO
      exact ⟨_, rfl, _, rfl, hB, A9, c9, rfl, Rd.of_own hO⟩
    refine Reg.pass_str 70 46 Try.underlying38 Try.underlying5 Try.underlying9 (Reg.met_some 44 true 68 rfl rfl (by kernel_rfl) (by kernel_rfl) rfl rfl) rfl (by kernel_rfl) (by kernel_rfl) rfl rfl ?_
    refine Reg.pass_oldK 0 (Reg.bytesK n l) (Reg.stable_bytes _ _) (Reg.met_some 44 true 68 rfl rfl (by kernel_rfl) (by kernel_rfl) rfl rfl) (.inl rfl) (by kernel_rfl) (by kernel_rfl) rfl (⟨A, c, rfl, hr⟩) ?_
    refine Reg.pass_str 72 48 Try.underlying38 Try.underlying5 Try.underlying9 (Reg.met_some 44 true 68 rfl rfl (by kernel_rfl) (by kernel_rfl) rfl rfl) rfl (by kernel_rfl) (by kernel_rfl) rfl rfl ?_
    apply Reg.pass_val (hm := (Reg.met_some 44 true 68 rfl rfl (by kernel_rfl) (by kernel_rfl) rfl rfl))
    · intro a w hE hS
      have e0 := Reg.see_new 71 47 hS (by kernel_rfl) (by kernel_rfl) rfl rfl
      have e1 := Reg.see_new 73 49 hS (by kernel_rfl) (by kernel_rfl) rfl rfl
      go_simp; first | done | rfl
    apply Reg.pass_val (hm := (Reg.met_none rfl))
    · intro a w hE hS
      have e0 := Reg.see_new 68 44 hS (by kernel_rfl) (by kernel_rfl) rfl rfl
      have e1 := Reg.see_new 74 50 hS (by kernel_rfl) (by kernel_rfl) rfl rfl
      go_simp; first | done | rfl
    refine Reg.pass_copy 75 51 (Reg.met_none rfl) (.inr rfl) (by kernel_rfl) (by kernel_rfl) rfl rfl (by first | exact Reg.stable_eqs _ | exact Reg.stable_built _ _ _ | exact Reg.stable_bytes _ _) ?_
    refine Reg.pass_end [none, none, none, none, none, none, some 6, none, none, none, none, none, none, none, none, none, none, none, none, none, none, none, none, none, some 24, some 25, some 26, some 27, some 28, some 29, some 30, some 31, some 32, some 33, some 34, some 35, some 36, some 37, some 38, some 39, some 40, some 41, some 42, some 43, some 44, some 45, some 46, some 47, some 48, some 49, some 50, some 51, some 52, some 53, some 54, some 55, some 56, some 57, some 58, some 59, some 60, some 61, some 62, some 63, some 64, some 65, some 66, some 67, some 68, some 69, some 70, some 71, some 72, some 73, some 74, some 75] (by kernel_rfl) ?_
    intro f w9 hE hf
    have h6 : f 6 = .bool true := hf 6 52 _ (by kernel_rfl) rfl
    have B9 := B4.drew.trans (hE.below B4.size)
    clear hf hE B4 r3' r4 hr
    simp only [Reg.sel, h6]
    go_wp2
    go_ret
    exact ⟨rfl, B9⟩
end Go.Proofs.Ytebdehhamjlbpaa
