/-
  Walk and law of the statement WotsUnlike.
-/
import Derived.Test.YtapkhafgfbhkkaaWotsD
import Derived.Test.YtapkhafgfbhkkaaTail
namespace Go.Proofs.Ytapkhafgfbhkkaa
open Go.RowKit

/-- some digit of the one is less than that of the other, among the first k -/
def lessTo (m n : List UInt8) : Nat → Bool
  | 0 => false
  | k + 1 => lessTo m n k || decide (digAll m k < digAll n k)

theorem lessTo_false (m n : List UInt8) : ∀ k, lessTo m n k = false → ∀ i, i < k → digAll n i ≤ digAll m i
  | 0, _, i, hi => by omega
  | k + 1, h, i, hi => by
    simp only [lessTo, Bool.or_eq_false_iff, decide_eq_false_iff_not] at h
    rcases Nat.lt_or_ge i k with h1 | h1
    · exact lessTo_false m n k h.1 i h1
    · obtain rfl : i = k := by omega
      omega
theorem dsum_mono (m n : List UInt8) (h : ∀ i, i < 64 → dig n i ≤ dig m i) : ∀ k, k ≤ 64 → dsum m k ≤ dsum n k
  | 0, _ => Nat.le_refl _
  | k + 1, hk => by
    have h1 := dsum_mono m n h k (by omega)
    have h2 := h k (by omega)
    simp only [dsum]; omega
theorem dsum_eq (m n : List UInt8) (h : ∀ i, i < 64 → dig n i ≤ dig m i) : ∀ k, k ≤ 64 → dsum m k = dsum n k → ∀ i, i < k → dig m i = dig n i
  | 0, _, _, i, hi => by omega
  | k + 1, hk, he, i, hi => by
    have h1 := dsum_mono m n h k (by omega)
    have h2 := h k (by omega)
    have h3 := dig_lt m k
    have h4 := dig_lt n k
    simp only [dsum] at he
    rcases Nat.lt_or_ge i k with h5 | h5
    · exact dsum_eq m n h k (by omega) (by omega) i h5
    · obtain rfl : i = k := by omega
      omega
theorem unlike (m n : List UInt8) (hm : m.length = 32) (hn : n.length = 32) (h : lessTo m n 67 = false) : m = n := by
  have h0 := lessTo_false m n 67 h
  have hd : ∀ i, i < 64 → dig n i ≤ dig m i := fun i hi => by
    have := h0 i (by omega)
    simpa [digAll, hi] using this
  have h1 := dsum_mono m n hd 64 (Nat.le_refl _)
  have h2 := dsum_le m 64
  have h3 := dsum_le n 64
  have c1 := h0 64 (by omega)
  have c2 := h0 65 (by omega)
  have c3 := h0 66 (by omega)
  simp only [digAll, Nat.lt_irrefl, if_false, show ¬ 65 < 64 by omega, show ¬ 66 < 64 by omega, Nat.reduceSub, Nat.reduceMul, Nat.reducePow] at c1 c2 c3
  have he : dsum m 64 = dsum n 64 := by
    generalize dsum m 64 = a at *
    generalize dsum n 64 = b at *
    omega
  have hq := dsum_eq m n hd 64 (Nat.le_refl _) he
  apply List.ext_getElem
  · omega
  · intro i i1 i2
    have e1 := hq (2 * i) (by omega)
    have e2 := hq (2 * i + 1) (by omega)
    rw [dig_even, dig_even] at e1
    rw [dig_odd, dig_odd] at e2
    simp only [List.getElem?_eq_getElem i1, List.getElem?_eq_getElem i2, Option.getD_some] at e1 e2
    apply UInt8.toNat_inj.1
    have := m[i].toNat_lt; have := n[i].toNat_lt
    omega

theorem dcell {w : World} {g : Nat} (m : List UInt8) (h : Blk w g 25 (icells (digs m)).toArray) (i : Nat) (hi : i < 67) : w.cell? ⟨g, i, none⟩ = some (.int .i64 (digAll m i : Nat)) :=
  row_dig (digAll m) 67 [] (by rw [List.append_nil]; exact h) i hi
theorem dec_cast (a b : Nat) : decide ((a : Int) < (b : Int)) = decide (a < b) := by simp

set_option maxHeartbeats 2000000 in
theorem wotsUnlike_walk (w : World) (m : List UInt8) (hm' : m.length = 32) (n : List UInt8) (hn' : n.length = 32) :
    Calls Try.prog 4 #[.agg (bcells m).toArray, .agg (bcells n).toArray] w fun e w' => e = .returned (.bool true) ∧ Below w.heap.size w w' := by
  have HM : Hid ((bcells m).length = 32) := Lib.hid (by rw [bcells_length]; exact hm')
  have HN : Hid ((bcells n).length = 32) := Lib.hid (by rw [bcells_length]; exact hn')
  have hne := fun W => nodeEq m n hm' hn' W
  have hun := Lib.hid (unlike m n hm' hn')
  have Hm := Lib.hid hm'
  have Hn := Lib.hid hn'
  clear hm' hn'
  go_enter Try.func4, Try.ntmps4
  go_wp2_with fail
  refine (awake06 _).mono ?_
  rintro e w1 ⟨rfl, hB1⟩
  have B1 := (((Below.refl w.heap.size w).alloc (Nat.le_refl _) (.cells (bcells m).toArray 23)).alloc (by simp) (.cells (bcells n).toArray 23)).trans (hB1.mono (by simp; omega))
  have hb0 := (((Blk.new w 23 (bcells m).toArray).alloc (.cells (bcells n).toArray 23)).below hB1 (by simp; omega)).drew
  have hb1 := (Blk.new (w.alloc (.cells (bcells m).toArray 23)) 23 (bcells n).toArray).below hB1 (by simp)
  rw [World.size_alloc] at hb1
  have hb1 := hb1.drew
  clear hB1
  go_wp2_with fail
  refine Reg.wp_region_tail 6 [4, 5] (by kernel_rfl) (by kernel_rfl) (by kernel_rfl) (by kernel_rfl) (by kernel_rfl) ?_
  refine Reg.pass_val (.agg (bcells m).toArray) (Reg.met_none rfl) (fun a w hE hS => ?_) ?_
  · have e0 := Reg.see_old 2 hS (by kernel_rfl) (by kernel_rfl) rfl
    exact reg_load 23 2 rfl e0 (hb0.ext hE) Try.underlying23 rfl (by rw [List.size_toArray, HM.out]; exact infNode)
  refine Reg.pass_step (Reg.eqs (.agg (icells (digs m)).toArray)) (Reg.stable_eqs _) (Reg.met_none rfl) (fun a w hE hS => ?_) ?_
  · have e0 := Reg.see_new 11 0 hS (by kernel_rfl) (by kernel_rfl) rfl rfl
    refine Reg.wp_call rfl Try.func6 rfl (by kernel_rfl) (by simp [Act.eval, e0]) (mDigits_any m Hm.out w) ?_
    rintro e w' ⟨rfl, hB⟩
    exact ⟨_, rfl, _, rfl, hB, rfl⟩
  refine Reg.pass_val (.agg (bcells n).toArray) (Reg.met_none rfl) (fun a w hE hS => ?_) ?_
  · have e0 := Reg.see_old 3 hS (by kernel_rfl) (by kernel_rfl) rfl
    exact reg_load 23 3 rfl e0 (hb1.ext hE) Try.underlying23 rfl (by rw [List.size_toArray, HN.out]; exact infNode)
  refine Reg.pass_step (Reg.eqs (.agg (icells (digs n)).toArray)) (Reg.stable_eqs _) (Reg.met_none rfl) (fun a w hE hS => ?_) ?_
  · have e0 := Reg.see_new 13 2 hS (by kernel_rfl) (by kernel_rfl) rfl rfl
    refine Reg.wp_call rfl Try.func6 rfl (by kernel_rfl) (by simp [Act.eval, e0]) (mDigits_any n Hn.out w) ?_
    rintro e w' ⟨rfl, hB⟩
    exact ⟨_, rfl, _, rfl, hB, rfl⟩
  refine Reg.pass_new 25 (icells zeros67).toArray rfl rfl zero67 ?_
  refine Reg.pass_new 25 (icells zeros67).toArray rfl rfl zero67 ?_
  refine ⟨fun i hi o ho => ?_, ?_⟩
  · simp only [List.mem_cons, List.not_mem_nil, or_false] at hi
    rcases hi with rfl | rfl
    · cases ho; exact ⟨_, _, rfl, rfl, zero67, rfl⟩
    · cases ho; exact ⟨_, _, rfl, rfl, zero67, rfl⟩
  refine Reg.tail_end [none, none, none, none, none, some 5, some 6, none, none, none, none, some 11, some 12, some 13, some 14, none, none, none, none, none, none, none, none, none, none, none, none, none, none, none, none, none, none, none, none] (by kernel_rfl) ?_
  intro f w9 hE hf hfr
  have h12 : f 12 = .agg (icells (digs m)).toArray := hf 12 1 _ (by kernel_rfl) (by decide) rfl
  have h14 : f 14 = .agg (icells (digs n)).toArray := hf 14 3 _ (by kernel_rfl) (by decide) rfl
  have h11 : f 11 = .agg (bcells m).toArray := hf 11 0 _ (by kernel_rfl) (by decide) rfl
  have h13 : f 13 = .agg (bcells n).toArray := hf 13 2 _ (by kernel_rfl) (by decide) rfl
  obtain ⟨b5, h5, hz5⟩ : Reg.newK 25 (icells zeros67).toArray (f 5) w9 := hf 5 4 _ (by kernel_rfl) (by decide) rfl
  obtain ⟨b6, h6, hz6⟩ : Reg.newK 25 (icells zeros67).toArray (f 6) w9 := hf 6 5 _ (by kernel_rfl) (by decide) rfl
  obtain ⟨b5', e5', hl5, hd5⟩ := hfr 4 (by simp) 5 (by kernel_rfl)
  obtain ⟨b6', e6', hl6, hd6⟩ := hfr 5 (by simp) 6 (by kernel_rfl)
  have h56 : b5 ≠ b6 := by
    intro e
    have := hd5 5 (by simp) (by decide) 6 (by kernel_rfl)
    rw [h6] at this
    exact this (by rw [← e5', h5, e])
  have g5 : w1.heap.size ≤ b5 := by
    rw [h5] at e5'
    simp only [Reg.ptr, Value.pointer.injEq, Option.some.injEq, Addr.mk.injEq, and_true] at e5'
    rw [e5']; exact hl5.1
  have g6 : w1.heap.size ≤ b6 := by
    rw [h6] at e6'
    simp only [Reg.ptr, Value.pointer.injEq, Option.some.injEq, Addr.mk.injEq, and_true] at e6'
    rw [e6']; exact hl6.1
  have hn1 := Lib.hid (show w.heap.size + 1 < w1.heap.size from hb1.lt)
  have B9 := B1.drew.trans (hE.below B1.size)
  have hm9 := hb0.ext hE
  have hn9 := hb1.ext hE
  clear hf hfr hE hb0 hb1 B1 hd5 hd6
  simp only [Reg.sel, h5, h6, h11, h12, h13, h14, List.drop_succ_cons, List.drop_zero]
  have Lm := Lib.hid (digs_length67 m)
  have Ln := Lib.hid (digs_length67 n)
  have zl : (icells zeros67).toArray.size = 67 := by simp [icells_length, zeros67]
  go_wp2_with (first
    | ((with_reducible refine at_store 25 ?_); refine wpList_storeAll w9 rfl 25 _ _ rfl b5 25 _ (icells (digs m)).toArray hz5 rfl rfl (by rw [zl, List.size_toArray, icells_length, Lm.out]) (by rw [List.size_toArray, icells_length, Lm.out]; kernel_rfl) (fun v hv => icells_one _ v (by simpa using hv)) ?_; intro w3 hb3 hg3 hs3)
    | ((with_reducible refine at_store 25 ?_); refine wpList_storeAll w3 rfl 25 _ _ rfl b6 25 _ (icells (digs n)).toArray (hz6.grown hg3 (by simpa using Ne.symm h56)) rfl rfl (by rw [zl, List.size_toArray, icells_length, Ln.out]) (by rw [List.size_toArray, icells_length, Ln.out]; kernel_rfl) (fun v hv => icells_one _ v (by simpa using hv)) ?_; intro w4 hb4 hg4 hs4))
  have hA := hb3.grown hg4 (by simpa using h56)
  have l0 : w.heap.size + 1 < w1.heap.size := by have := hn1.out; omega
  have hm4 := (hm9.grown hg3 (by simp; omega)).grown hg4 (by simp; omega)
  have hn4 := (hn9.grown hg3 (by simp; omega)).grown hg4 (by simp; omega)
  have hB4 : Below w.heap.size w w4 := grown_below (grown_below B9 hg3 B9.size (by omega)) hg4 (by rw [hs3]; exact B9.size) (by omega)
  clear hm9 hn9 hz5 hz6 hb3 hg3 hg4 B9 h5 h6 h11 h12 h13 h14 e5' e6' hl5 hl6 hs3 hs4 zl g5 g6
  go_loopw [7, 15] (fun x i wr => ∃ k : Nat, k ≤ 67 ∧ i = .int .i64 k ∧ x = .bool (lessTo m n k) ∧ Blk wr b5 25 (icells (digs m)).toArray ∧ Blk wr b6 25 (icells (digs n)).toArray ∧
    Blk wr w.heap.size 23 (bcells m).toArray ∧ Blk wr (w.heap.size + 1) 23 (bcells n).toArray ∧ Below w.heap.size w wr) (fun _ i _ => 67 - (intOf i).toNat)
  case atStart => exact ⟨0, by omega, rfl, rfl, hA, hb4, hm4, hn4, hB4⟩
  case round =>
    obtain ⟨k, hk, rfl, rfl, h1, h2, h3, h4, h5⟩ := hrel
    clear hA hb4 hm4 hn4 hB4
    by_cases hlt : k < 67
    · have c1 := dcell m h1 k hlt
      have c2 := dcell n h2 k hlt
      have hstep : lessTo m n (k + 1) = (lessTo m n k || decide (digAll m k < digAll n k)) := rfl
      cases hq : lessTo m n k with
      | true =>
        rw [hq] at hstep
        go_wp2_with fail
        go_quiet (fail)
        go_wp2
        go_roundw
        case rel => exact ⟨k + 1, by omega, by simp, by rw [hstep]; rfl, h1, h2, h3, h4, below_drewN h5 _⟩
        case measure => simp [intOf]; omega
      | false =>
        rw [hq] at hstep
        go_wp2_with fail
        go_quiet (fail)
        go_wp2
        go_roundw
        case rel => exact ⟨k + 1, by omega, by simp, by rw [hstep]; simp, h1, h2, h3, h4, below_drewN h5 _⟩
        case measure => simp [intOf]; omega
    · obtain rfl : k = 67 := by omega
      cases hq : (m == n) with
      | true =>
        go_wp2_with (first
          | ((with_reducible refine at_load 23 ?_); refine wpList_loadAll _ rfl 23 _ rfl w.heap.size 23 (bcells m).toArray h3 _ rfl Try.underlying23 rfl (by rw [List.size_toArray, HM.out]; exact infNode) ?_)
          | ((with_reducible refine at_load 23 ?_); refine wpList_loadAll _ rfl 23 _ rfl (w.heap.size + 1) 23 (bcells n).toArray h4 _ rfl Try.underlying23 rfl (by rw [List.size_toArray, HN.out]; exact infNode) ?_))
        go_ret
        exact ⟨rfl, h5⟩
      | false =>
        have hl : lessTo m n 67 = true := by
          cases hx : lessTo m n 67 with
          | true => rfl
          | false => have := hun.out hx; subst this; simp at hq
        rw [hl]
        go_wp2_with (first
          | ((with_reducible refine at_load 23 ?_); refine wpList_loadAll _ rfl 23 _ rfl w.heap.size 23 (bcells m).toArray h3 _ rfl Try.underlying23 rfl (by rw [List.size_toArray, HM.out]; exact infNode) ?_)
          | ((with_reducible refine at_load 23 ?_); refine wpList_loadAll _ rfl 23 _ rfl (w.heap.size + 1) 23 (bcells n).toArray h4 _ rfl Try.underlying23 rfl (by rw [List.size_toArray, HN.out]; exact infNode) ?_))
        go_ret
        exact ⟨rfl, h5⟩
end Go.Proofs.Ytapkhafgfbhkkaa
