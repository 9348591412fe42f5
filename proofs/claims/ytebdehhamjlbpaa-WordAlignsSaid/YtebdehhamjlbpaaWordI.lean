/-
  Walks: word.Down, Up, Aligned, portreeveref01.Down, Up; the statement WordAligns.
-/
import Derived.Test.YtebdehhamjlbpaaWordH
namespace Go.Proofs.Ytebdehhamjlbpaa
open Go.RowKit

def downN (n a : Nat) : Nat := if a = 0 then 0 else n - n % a
def upN (n a : Nat) : Nat := if a = 0 then 0 else if n % a = 0 then n else if n - n % a + a < P64 then n - n % a + a else 0
def upB (n a : Nat) : Bool := decide (a ≠ 0 ∧ (n % a = 0 ∨ n - n % a + a < P64))
def alignB (a : Nat) (xs : List Nat) : Bool := decide (a ≠ 0) && xs.all fun x => x % a == 0

section
variable (n a : Nat) (w : World)
set_option maxHeartbeats 400000 in
theorem down_any (hn : n < P64) (_ha : a < P64) : Calls Try.prog 37 #[.int .u64 n, .int .u64 a] w fun e w' => e = .returned (.int .u64 (downN n a : Nat)) ∧ w = w' := by
  unfold P64 at hn
  by_cases h0 : a = 0
  · have h1 : ((a : Int) == 0) = true := by simp [h0]
    have e : downN n a = 0 := by rw [downN, if_pos h0]
    rw [e]; clear e h0
    go_enter Try.func37, Try.ntmps37
    go_wp2
    go_ret
    exact ⟨rfl, rfl⟩
  · have h1 : ((a : Int) == 0) = false := by simp [h0]
    have e : downN n a = n - n % a := by rw [downN, if_neg h0]
    have hle : n % a ≤ n := Nat.mod_le _ _
    have e2 : ((n - n % a : Nat) : Int) = (n : Int) - (n : Int) % (a : Int) := by omega
    rw [e]
    have E2 := Lib.hid e2
    have hi : (n : Int) % (a : Int) ≤ n := by omega
    have hj : 0 ≤ (n : Int) % (a : Int) := by omega
    clear e e2 hle
    go_enter Try.func37, Try.ntmps37
    go_wp2
    go_ret
    exact ⟨by rw [E2.out]; rfl, rfl⟩
set_option maxHeartbeats 400000 in
theorem rdown_any (hn : n < P64) (_ha : a < P64) : Calls Try.prog 40 #[.int .u64 n, .int .u64 a] w fun e w' => e = .returned (.int .u64 (downN n a : Nat)) ∧ w = w' := by
  unfold P64 at hn
  by_cases h0 : a = 0
  · have h1 : ((a : Int) == 0) = true := by simp [h0]
    have e : downN n a = 0 := by rw [downN, if_pos h0]
    rw [e]; clear e h0
    go_enter Try.func40, Try.ntmps40
    go_wp2
    go_ret
    exact ⟨rfl, rfl⟩
  · have h1 : ((a : Int) == 0) = false := by simp [h0]
    have e : downN n a = n / a * a := by
      rw [downN, if_neg h0]
      have := Nat.div_add_mod n a
      rw [Nat.mul_comm] at this
      omega
    have hle : n / a * a ≤ n := Nat.div_mul_le_self n a
    rw [e]
    have hi : ((n : Int) / (a : Int)) * (a : Int) ≤ n := by exact_mod_cast hle
    have hj : 0 ≤ ((n : Int) / (a : Int)) * (a : Int) := by exact_mod_cast Nat.zero_le _
    clear e hle
    go_enter Try.func40, Try.ntmps40
    go_wp2
    have q0 : (n : Int) / (a : Int) ≤ n := by exact_mod_cast Nat.div_le_self n a
    have q3 : 0 ≤ (n : Int) / (a : Int) := by exact_mod_cast Nat.zero_le (n / a)
    have q1 : IntKind.u64.wrap ((n : Int) / (a : Int)) = (n : Int) / (a : Int) := IntWalk.u64_in _ ⟨q3, by omega⟩
    have q2 : IntKind.u64.wrap ((n : Int) / (a : Int) * (a : Int)) = (n : Int) / (a : Int) * (a : Int) := IntWalk.u64_in _ ⟨hj, by omega⟩
    go_ret
    exact ⟨by simp [q1, q2], rfl⟩
set_option maxHeartbeats 400000 in
theorem up_any (hn : n < P64) (ha : a < P64) : Calls Try.prog 38 #[.int .u64 n, .int .u64 a] w fun e w' => e = .returned (.tuple #[.int .u64 (upN n a : Nat), .bool (upB n a)]) ∧ Below w.heap.size w w' := by
  have hn' := hn
  have ha' := ha
  unfold P64 at hn ha
  by_cases h0 : a = 0
  · have h1 : ((a : Int) == 0) = true := by simp [h0]
    have e : upN n a = 0 ∧ upB n a = false := ⟨by rw [upN, if_pos h0], by rw [upB]; simp [h0]⟩
    rw [e.1, e.2]; clear e h0 hn' ha'
    go_enter Try.func38, Try.ntmps38
    go_wp2
    go_ret2
    exact ⟨rfl, Below.refl _ _⟩
  · have h1 : ((a : Int) == 0) = false := by simp [h0]
    have hd : downN n a = n - n % a := by rw [downN, if_neg h0]
    have hle : n % a ≤ n := Nat.mod_le _ _
    by_cases hz : n % a = 0
    · have e : upN n a = n ∧ upB n a = true := ⟨by rw [upN, if_neg h0, if_pos hz], by rw [upB]; simp [h0, hz]⟩
      have hd' : downN n a = n := by omega
      rw [e.1, e.2]
      have HD := Lib.hid hd'
      clear e h0 hd hle hz hd'
      go_enter Try.func38, Try.ntmps38
      go_wp2_with (go_at_call 37; refine (down_any n a _ hn' ha').mono ?_; rintro e w' ⟨rfl, rfl⟩; rw [HD.out])
      go_ret2
      exact ⟨rfl, Below.refl _ _⟩
    · have hne : ((downN n a : Nat) == (n : Int)) = false := by
        rw [hd]; simp; omega
      have hne' : (((downN n a : Nat) : Int) == (n : Int)) = false := hne
      have hlow : downN n a < P64 := by omega
      have e1 : addNum [downN n a, a] = upN n a := by
        rw [addNum, upN, if_neg h0, if_neg hz, hd]
        have hs : [n - n % a, a].sum = n - n % a + a := by simp only [List.sum_cons, List.sum_nil, Nat.add_zero]
        by_cases hc : n - n % a + a < P64
        · rw [if_pos (by rw [hs]; exact hc), if_pos hc, hs]
        · rw [if_neg (by rw [hs]; exact hc), if_neg hc]
      have e2 : addOk [downN n a, a] = upB n a := by
        rw [addOk, upB, hd]
        simp only [List.sum_cons, List.sum_nil, Nat.add_zero]
        exact decide_eq_decide.2 ⟨fun h => ⟨h0, .inr h⟩, fun h => h.2.resolve_left hz⟩
      have hall : ∀ x ∈ [downN n a, a], x < P64 := by
        intro x hx
        simp only [List.mem_cons, List.not_mem_nil, or_false] at hx
        rcases hx with rfl | rfl <;> assumption
      generalize hD : downN n a = D at *
      have HD := Lib.hid hD
      have E1 := Lib.hid e1; have E2 := Lib.hid e2; have HA := Lib.hid hall
      clear e1 e2 hall hd hne hlow hz hle h0 hD
      have hdn := down_any n a w hn' ha'
      rw [HD.out] at hdn
      have HC := Lib.hid hdn
      clear hdn
      go_enter Try.func38, Try.ntmps38
      go_wp2_with (go_at_call 37; refine HC.out.mono ?_; rintro e w' ⟨rfl, rfl⟩)
      refine (add_any (some ⟨w.heap.size, 0, none⟩) 2 2 [D, a] _ ((Blk.new w 23 #[.int .u64 D, .int .u64 a]).rd rfl) (by omega) HA.out).mono ?_
      rintro e w2 ⟨rfl, rfl⟩
      rw [E1.out, E2.out]
      go_wp2
      go_ret2
      exact ⟨rfl, (Below.refl _ _).alloc (Nat.le_refl _) _⟩
set_option maxHeartbeats 400000 in
theorem rup_any (hn : n < P64) (ha : a < P64) : Calls Try.prog 39 #[.int .u64 n, .int .u64 a] w fun e w' => e = .returned (.tuple #[.int .u64 (upN n a : Nat), .bool (upB n a)]) ∧ w = w' := by
  by_cases h0 : a = 0
  · have h1 : ((a : Int) == 0) = true := by simp [h0]
    have e : upN n a = 0 ∧ upB n a = false := ⟨by rw [upN, if_pos h0], by rw [upB]; simp [h0]⟩
    rw [e.1, e.2]; clear e h0 hn ha
    go_enter Try.func39, Try.ntmps39
    go_wp2
    go_ret2
    exact ⟨rfl, rfl⟩
  · have h1 : ((a : Int) == 0) = false := by simp [h0]
    have hle : n % a ≤ n := Nat.mod_le _ _
    have hlt : n % a < a := Nat.mod_lt _ (by omega)
    by_cases hz : n % a = 0
    · have e : upN n a = n ∧ upB n a = true := ⟨by rw [upN, if_neg h0, if_pos hz], by rw [upB]; simp [h0, hz]⟩
      have h2 : ((n : Int) % (a : Int) == 0) = true := by
        rw [beq_iff_eq]; exact_mod_cast hz
      rw [e.1, e.2]
      unfold P64 at hn ha
      clear e hle hlt hz
      go_enter Try.func39, Try.ntmps39
      go_wp2
      go_ret2
      exact ⟨rfl, rfl⟩
    · have h2 : ((n : Int) % (a : Int) == 0) = false := by
        rw [beq_eq_false_iff_ne]; exact_mod_cast hz
      have hm1 : ((n % a : Nat) : Int) = (n : Int) % (a : Int) := Int.natCast_emod _ _
      by_cases hf : n - n % a + a < P64
      · have e : upN n a = n - n % a + a ∧ upB n a = true := ⟨by rw [upN, if_neg h0, if_neg hz, if_pos hf], by rw [upB]; simp [h0, hf]⟩
        rw [e.1, e.2]
        unfold P64 at hn ha hf
        have i1 : 0 ≤ (n : Int) % (a : Int) := by omega
        have i2 : (n : Int) % (a : Int) ≤ a := by omega
        have i3 : (n : Int) ≤ 18446744073709551615 - ((a : Int) - (n : Int) % (a : Int)) := by omega
        have i4 : ((n - n % a + a : Nat) : Int) = (n : Int) + ((a : Int) - (n : Int) % (a : Int)) := by omega
        have I4 := Lib.hid i4
        clear e hle hlt hz hm1 i4 hf
        go_enter Try.func39, Try.ntmps39
        go_wp2
        go_ret2
        exact ⟨by rw [I4.out]; rfl, rfl⟩
      · have e : upN n a = 0 ∧ upB n a = false := ⟨by rw [upN, if_neg h0, if_neg hz, if_neg hf], by rw [upB]; simp [h0, hf, hz]⟩
        rw [e.1, e.2]
        unfold P64 at hn ha hf
        have i1 : 0 ≤ (n : Int) % (a : Int) := by omega
        have i2 : (n : Int) % (a : Int) ≤ a := by omega
        have i3 : 18446744073709551615 - ((a : Int) - (n : Int) % (a : Int)) < n := by omega
        clear e hle hlt hz hm1 hf
        go_enter Try.func39, Try.ntmps39
        go_wp2
        go_ret2
        exact ⟨rfl, rfl⟩
end

set_option maxHeartbeats 400000 in
theorem aligned_any (a : Nat) (_ha : a < P64) (A : Option Addr) (m c : Nat) (xs : List Nat) (w : World) (h : Rd w w.heap.size 1 A m (xs.map fun (x : Nat) => Value.int .u64 (x : Int))) (hm : m ≤ 1000) (hb : ∀ x ∈ xs, x < P64) :
    Calls Try.prog 41 #[.int .u64 a, .slice A m c] w fun e w' => e = .returned (.bool (alignB a xs)) ∧ w = w' := by
  have hlen : xs.length = m := by have := h.len; simpa using this
  have HL := Lib.hid hlen; clear hlen
  by_cases h0 : a = 0
  · have h1 : ((a : Int) == 0) = true := by simp [h0]
    have h1' : ((a : Int) != 0) = false := by simp [h0]
    have e : alignB a xs = false := by rw [alignB]; simp [h0]
    rw [e]
    clear e h0 hb
    go_enter Try.func41, Try.ntmps41
    go_wp2
    go_loop [9] (fun i => i = .int .i64 0) (fun _ => 0)
    case atStart => rfl
    case round =>
      obtain rfl := hrel
      by_cases hm0 : 0 < m
      · obtain ⟨ad, rfl, _, hcs⟩ := h.cells (by omega)
        have c1' : w.cell? ad = some (.int .u64 (xs[0]?.getD 0 : Nat)) := hcs 0 (.int .u64 (xs[0]?.getD 0 : Nat)) (by rw [List.getElem?_map, List.getElem?_eq_getElem (by rw [HL.out]; exact hm0)]; rfl)
        clear hcs h
        go_wp2
        go_ret
        exact ⟨rfl, rfl⟩
      · go_wp2
        go_ret
        exact ⟨rfl, rfl⟩
  · have h1 : ((a : Int) == 0) = false := by simp [h0]
    have h1' : ((a : Int) != 0) = true := by simp [h0]
    have ha0 : decide (a ≠ 0) = true := decide_eq_true h0
    have HE : Hid (alignB a xs = xs.all fun x => x % a == 0) := by rw [alignB, ha0]; exact Bool.true_and _
    clear ha0
    go_enter Try.func41, Try.ntmps41
    go_wp2
    go_loop [9] (fun i => ∃ k : Nat, k ≤ m ∧ i = .int .i64 k ∧ Hid ((xs.take k).all (fun x => x % a == 0) = true)) (fun i => m - (intOf i).toNat)
    case atStart => exact ⟨0, Nat.zero_le _, rfl, Lib.hid rfl⟩
    case round =>
      obtain ⟨k, hk, rfl, HK⟩ := hrel
      by_cases hlt : k < m
      · obtain ⟨ad, rfl, _, hcs⟩ := h.cells (by omega)
        have hkl : k < xs.length := by rw [HL.out]; exact hlt
        have hx : xs[k] < P64 := hb _ (List.getElem_mem hkl)
        have c1 : w.cell? (ad.add k) = some (.int .u64 (xs[k] : Nat)) := hcs k _ (by rw [List.getElem?_map, List.getElem?_eq_getElem hkl]; rfl)
        have hsn : (xs.take (k + 1)).all (fun x => x % a == 0) = ((xs.take k).all (fun x => x % a == 0) && (xs[k] % a == 0)) := by
          rw [List.take_succ_eq_append_getElem hkl]; simp only [List.all_append, List.all_cons, List.all_nil, Bool.and_true]
        have HN := Lib.hid hsn
        have HM : Hid (xs[k] ∈ xs) := Lib.hid (List.getElem_mem hkl)
        clear hcs h hsn hb
        generalize xs[k] = y at *
        have ha := _ha
        unfold P64 at hx ha
        by_cases hz : y % a = 0
        · have h2 : ((y : Int) % (a : Int) != 0) = false := by
            simp only [bne_eq_false_iff_eq]; exact_mod_cast hz
          have HZ := Lib.hid hz
          clear hz
          go_wp2
          go_round
          case rel => exact ⟨k + 1, by omega, by go_num, by rw [HN.out, HK.out, HZ.out]; exact Lib.hid rfl⟩
          case measure => simp [intOf]; omega
        · have h2 : ((y : Int) % (a : Int) != 0) = true := by
            simp only [bne_iff_ne]; exact_mod_cast hz
          have HZ := Lib.hid hz
          clear hz
          go_wp2
          go_ret
          refine ⟨?_, rfl⟩
          have : alignB a xs = false := by
            rw [HE.out]
            rw [List.all_eq_false]
            exact ⟨y, HM.out, by simpa using HZ.out⟩
          rw [this]; rfl
      · obtain rfl : k = m := by omega
        have hall : xs.take k = xs := List.take_of_length_le (by rw [HL.out]; exact Nat.le_refl _)
        have HA := Lib.hid hall
        clear hall hb
        go_wp2
        go_ret
        refine ⟨?_, rfl⟩
        have := HK.out
        rw [HA.out] at this
        rw [HE.out, this]; rfl

set_option maxHeartbeats 1000000 in
theorem wordAligns_walk (w : World) (a0 : Int) (w0 : (Lit.int .u64 a0).wf = true) (a1 : Int) (w1 : (Lit.int .u64 a1).wf = true) (a2 : Int) (w2 : (Lit.int .u64 a2).wf = true) :
    Calls Try.prog 13 #[.int .u64 a0, .int .u64 a1, .int .u64 a2] w fun e w' => e = .returned (.bool true) ∧ Below w.heap.size w w' := by
  obtain ⟨n, hn, rfl⟩ := wf_u64 w0
  obtain ⟨a, ha, rfl⟩ := wf_u64 w1
  obtain ⟨m, hm, rfl⟩ := wf_u64 w2
  clear w0 w1 w2
  have hn' : n < P64 := hn
  have ha' : a < P64 := ha
  have hm' : m < P64 := hm
  have hall : ∀ x ∈ [n, m], x < P64 := by
    intro x hx
    simp only [List.mem_cons, List.not_mem_nil, or_false] at hx
    rcases hx with rfl | rfl <;> assumption
  have HA := Lib.hid hall
  have Hn := Lib.hid hn'; have Ha := Lib.hid ha'
  clear hall hn' ha' hm'
  by_cases h0 : a = 0
  · have e1 : alignB a [n, m] = false := by simp [alignB, h0]
    have e2 : alignB a [] = false := by simp [alignB, h0]
    have g1 : ((a : Int) != 0) = false := by simp [h0]
    clear h0
    have H1 := Lib.hid e1; have H2 := Lib.hid e2
    clear e1 e2
    go_enter Try.func13, Try.ntmps13
    go_wp2_with (go_at_call 21; refine (awake01 _).mono ?_; rintro e w1 ⟨rfl, B1⟩)
    refine (down_any n a w1 Hn.out Ha.out).mono ?_
    rintro e w2 ⟨rfl, rfl⟩
    go_wp2_with fail
    refine (up_any n a w1 Hn.out Ha.out).mono ?_
    rintro e w2 ⟨rfl, hB2⟩
    have B2 := B1.trans (hB2.mono B1.size)
    clear B1 hB2
    go_wp2_with fail
    refine (rup_any n a w2 Hn.out Ha.out).mono ?_
    rintro e w3 ⟨rfl, rfl⟩
    go_wp2_with fail
    refine (rdown_any n a w2 Hn.out Ha.out).mono ?_
    rintro e w3 ⟨rfl, rfl⟩
    go_wp2_with fail
    refine (aligned_any a Ha.out (some ⟨w2.heap.size, 0, none⟩) 2 2 [n, m] _ ((Blk.new w2 23 #[.int .u64 n, .int .u64 m]).rd rfl) (by omega) HA.out).mono ?_
    rintro e w3 ⟨rfl, rfl⟩
    rw [H1.out]
    go_wp2_with fail
    refine (aligned_any a Ha.out none 0 0 [] _ (Rd.nil _ _ _ _) (by omega) (by simp)).mono ?_
    rintro e w3 ⟨rfl, rfl⟩
    rw [H2.out]
    go_wp2
    go_ret
    exact ⟨by simp, B2.alloc B2.size _⟩
  have g1 : ((a : Int) != 0) = true := by simp [h0]
  by_cases h1 : n % a = 0
  · have g2 : ((n : Int) % (a : Int) == 0) = true := by rw [beq_iff_eq]; exact_mod_cast h1
    by_cases h2 : m % a = 0
    · have e1 : alignB a [n, m] = true := by simp [alignB, h0, h1, h2]
      have e2 : alignB a [] = true := by simp [alignB, h0]
      have g3 : ((m : Int) % (a : Int) == 0) = true := by rw [beq_iff_eq]; exact_mod_cast h2
      clear h1 h2
      have H1 := Lib.hid e1; have H2 := Lib.hid e2
      clear e1 e2
      go_enter Try.func13, Try.ntmps13
      go_wp2_with (go_at_call 21; refine (awake01 _).mono ?_; rintro e w1 ⟨rfl, B1⟩)
      refine (down_any n a w1 Hn.out Ha.out).mono ?_
      rintro e w2 ⟨rfl, rfl⟩
      go_wp2_with fail
      refine (up_any n a w1 Hn.out Ha.out).mono ?_
      rintro e w2 ⟨rfl, hB2⟩
      have B2 := B1.trans (hB2.mono B1.size)
      clear B1 hB2
      go_wp2_with fail
      refine (rup_any n a w2 Hn.out Ha.out).mono ?_
      rintro e w3 ⟨rfl, rfl⟩
      go_wp2_with fail
      refine (rdown_any n a w2 Hn.out Ha.out).mono ?_
      rintro e w3 ⟨rfl, rfl⟩
      go_wp2_with fail
      refine (aligned_any a Ha.out (some ⟨w2.heap.size, 0, none⟩) 2 2 [n, m] _ ((Blk.new w2 23 #[.int .u64 n, .int .u64 m]).rd rfl) (by omega) HA.out).mono ?_
      rintro e w3 ⟨rfl, rfl⟩
      rw [H1.out]
      go_wp2_with fail
      refine (aligned_any a Ha.out none 0 0 [] _ (Rd.nil _ _ _ _) (by omega) (by simp)).mono ?_
      rintro e w3 ⟨rfl, rfl⟩
      rw [H2.out]
      go_wp2
      go_ret
      exact ⟨by simp, B2.alloc B2.size _⟩
    · have e1 : alignB a [n, m] = false := by simp [alignB, h0, h1, h2]
      have e2 : alignB a [] = true := by simp [alignB, h0]
      have g3 : ((m : Int) % (a : Int) == 0) = false := by rw [beq_eq_false_iff_ne]; exact_mod_cast h2
      clear h1 h2
      have H1 := Lib.hid e1; have H2 := Lib.hid e2
      clear e1 e2
      go_enter Try.func13, Try.ntmps13
      go_wp2_with (go_at_call 21; refine (awake01 _).mono ?_; rintro e w1 ⟨rfl, B1⟩)
      refine (down_any n a w1 Hn.out Ha.out).mono ?_
      rintro e w2 ⟨rfl, rfl⟩
      go_wp2_with fail
      refine (up_any n a w1 Hn.out Ha.out).mono ?_
      rintro e w2 ⟨rfl, hB2⟩
      have B2 := B1.trans (hB2.mono B1.size)
      clear B1 hB2
      go_wp2_with fail
      refine (rup_any n a w2 Hn.out Ha.out).mono ?_
      rintro e w3 ⟨rfl, rfl⟩
      go_wp2_with fail
      refine (rdown_any n a w2 Hn.out Ha.out).mono ?_
      rintro e w3 ⟨rfl, rfl⟩
      go_wp2_with fail
      refine (aligned_any a Ha.out (some ⟨w2.heap.size, 0, none⟩) 2 2 [n, m] _ ((Blk.new w2 23 #[.int .u64 n, .int .u64 m]).rd rfl) (by omega) HA.out).mono ?_
      rintro e w3 ⟨rfl, rfl⟩
      rw [H1.out]
      go_wp2_with fail
      refine (aligned_any a Ha.out none 0 0 [] _ (Rd.nil _ _ _ _) (by omega) (by simp)).mono ?_
      rintro e w3 ⟨rfl, rfl⟩
      rw [H2.out]
      go_wp2
      go_ret
      exact ⟨by simp, B2.alloc B2.size _⟩
  · have e1 : alignB a [n, m] = false := by simp [alignB, h0, h1]
    have e2 : alignB a [] = true := by simp [alignB, h0]
    have g2 : ((n : Int) % (a : Int) == 0) = false := by rw [beq_eq_false_iff_ne]; exact_mod_cast h1
    clear h1
    have H1 := Lib.hid e1; have H2 := Lib.hid e2
    clear e1 e2
    go_enter Try.func13, Try.ntmps13
    go_wp2_with (go_at_call 21; refine (awake01 _).mono ?_; rintro e w1 ⟨rfl, B1⟩)
    refine (down_any n a w1 Hn.out Ha.out).mono ?_
    rintro e w2 ⟨rfl, rfl⟩
    go_wp2_with fail
    refine (up_any n a w1 Hn.out Ha.out).mono ?_
    rintro e w2 ⟨rfl, hB2⟩
    have B2 := B1.trans (hB2.mono B1.size)
    clear B1 hB2
    go_wp2_with fail
    refine (rup_any n a w2 Hn.out Ha.out).mono ?_
    rintro e w3 ⟨rfl, rfl⟩
    go_wp2_with fail
    refine (rdown_any n a w2 Hn.out Ha.out).mono ?_
    rintro e w3 ⟨rfl, rfl⟩
    go_wp2_with fail
    refine (aligned_any a Ha.out (some ⟨w2.heap.size, 0, none⟩) 2 2 [n, m] _ ((Blk.new w2 23 #[.int .u64 n, .int .u64 m]).rd rfl) (by omega) HA.out).mono ?_
    rintro e w3 ⟨rfl, rfl⟩
    rw [H1.out]
    go_wp2_with fail
    refine (aligned_any a Ha.out none 0 0 [] _ (Rd.nil _ _ _ _) (by omega) (by simp)).mono ?_
    rintro e w3 ⟨rfl, rfl⟩
    rw [H2.out]
    go_wp2
    go_ret
    exact ⟨by simp, B2.alloc B2.size _⟩
end Go.Proofs.Ytebdehhamjlbpaa
