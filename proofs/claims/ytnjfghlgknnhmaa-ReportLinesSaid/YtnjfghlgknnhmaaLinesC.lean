/-
  Walks of the statements ReportNames and ReportApart.
-/
import Derived.Test.YtnjfghlgknnhmaaLinesB
namespace Go.Proofs.Ytnjfghlgknnhmaa
open Go.RowKit

theorem inI_of {x : Int} (h : (Lit.int .i64 x).wf = true) : inI x := by
  simp [Lit.wf, IntKind.min, IntKind.max, IntKind.bits, IntKind.signed] at h
  exact ⟨by omega, by omega⟩

set_option maxRecDepth 100000 in
set_option maxHeartbeats 2000000 in
theorem reportNames_walk (w : World) (x : Int) (wx : (Lit.int .i64 x).wf = true) (S : List UInt8) (_hS : S.length ≤ 9223372036854775807) :
    Calls Try.prog 13 #[.int .i64 x, .string ⟨S.toArray⟩] w fun e w' => e = .returned (.bool true) ∧ Below w.heap.size w w' := by
  have hx := Lib.hid (inI_of wx)
  clear wx
  obtain ⟨N, hN⟩ : ∃ N, N = nameOf x := ⟨_, rfl⟩
  obtain ⟨m, hm⟩ : ∃ m, m = (errOf S).getD 0 := ⟨_, rfl⟩
  obtain ⟨b, hb⟩ : ∃ b, b = (errOf S).isSome := ⟨_, rfl⟩
  have HN := Lib.hid hN
  have Hm := Lib.hid hm
  have Hb := Lib.hid hb
  clear hN hm hb
  go_enter Try.func13, Try.ntmps13
  go_wp2_with fail
  refine (awake33 w).mono ?_
  rintro e W1 ⟨rfl, B1⟩
  by_cases h200 : 200 < S.length
  · go_wp2
    go_ret
    exact ⟨rfl, B1⟩
  · go_wp2_with fail
    refine (mOf_any S _).mono ?_
    rintro e W2 ⟨rfl, B2⟩
    rw [← Hm.out, ← Hb.out]
    have B2 := B1.trans (B2.mono B1.size)
    go_wp2_with fail
    refine (rNamed_any S _).mono ?_
    rintro e W3 ⟨rfl, B3⟩
    rw [← Hm.out, ← Hb.out]
    have B3 := B2.trans (B3.mono B2.size)
    go_wp2_with fail
    refine (mName_any x hx.out.1 hx.out.2 _).mono ?_
    rintro e W4 ⟨rfl, B4⟩
    rw [← HN.out]
    have B4 := B3.trans (B4.mono B3.size)
    go_wp2_with fail
    refine (rName_any x hx.out.1 hx.out.2 _).mono ?_
    rintro e W5 ⟨rfl, B5⟩
    rw [← HN.out]
    have B5 := B4.trans (B5.mono B4.size)
    go_wp2
    go_ret
    exact ⟨by simp, B5⟩

/-! ### no two errors have one name -/
theorem decDig_inj {a b : Nat} (ha : a < 10) (hb : b < 10) (h : decDig a = decDig b) : a = b := by
  have h1 := decDig_nat a ha
  have h2 := decDig_nat b hb
  rw [h] at h1; omega
theorem ddigs_inj (x y : Nat) : ∀ j, ddigs x j = ddigs y j → x % 10 ^ j = y % 10 ^ j
  | 0, _ => by simp [Nat.mod_one]
  | j + 1, h => by
    simp only [ddigs, List.cons.injEq] at h
    have h1 := decDig_inj (by omega) (by omega) h.1
    have h2 := ddigs_inj x y j h.2
    rw [Nat.mod_pow_succ, Nat.mod_pow_succ, h1, h2]
theorem DecLen.lt {x J : Nat} (h : DecLen x J) : x < 10 ^ J := by
  have := h.done
  rw [Nat.div_eq_zero_iff] at this
  rcases this with h1 | h1
  · have : 0 < 10 ^ J := Nat.pow_pos (by omega)
    omega
  · exact h1
theorem decStr_inj {x y : Nat} (h : decStr x = decStr y) : x = y := by
  have hl : dlen x = dlen y := by have := congrArg List.length h; simpa [decStr, ddigs_length] using this
  unfold decStr at h
  rw [← hl] at h
  have := ddigs_inj x y _ h
  rw [Nat.mod_eq_of_lt (dlen_is x).lt, Nat.mod_eq_of_lt (by rw [hl]; exact (dlen_is y).lt)] at this
  exact this
theorem decStr_head (x : Nat) : ∃ d l, d < 10 ∧ decStr x = decDig d :: l := by
  obtain ⟨J, hJ⟩ : ∃ J, dlen x = J + 1 := ⟨dlen x - 1, by have := (dlen_is x).one; omega⟩
  exact ⟨x / 10 ^ J % 10, ddigs x J, by omega, by rw [decStr, hJ, ddigs]⟩
theorem decDig_ne45 {d : Nat} (h : d < 10) : decDig d ≠ 45 := by
  intro e; have := decDig_nat d h; rw [e] at this; simp at this; omega
theorem digStr_inj {a b : Int} (h : digStr a = digStr b) : a = b := by
  unfold digStr at h
  split at h <;> split at h
  · have := decStr_inj (List.cons.inj h).2; omega
  · obtain ⟨d, l, hd, e⟩ := decStr_head b.toNat
    rw [e] at h; exact absurd (List.cons.inj h).1.symm (decDig_ne45 hd)
  · obtain ⟨d, l, hd, e⟩ := decStr_head a.toNat
    rw [e] at h; exact absurd (List.cons.inj h).1 (decDig_ne45 hd)
  · have := decStr_inj h; omega
theorem tab_nospace : ∀ x ∈ nameTab, x.2.contains 32 = false := by decide
theorem tab_once : ∀ x ∈ nameTab, ∀ y ∈ nameTab, (x.2 == y.2) = (x.1 == y.1) := by decide +kernel
theorem tab_num : ∀ x ∈ nameTab, nameTab.find? (fun y => y.2 == x.2) = some x := by decide +kernel
theorem nameOf_cases (a : Int) : (∃ x ∈ nameTab, ((x.1 : Nat) : Int) = a ∧ nameOf a = x.2) ∨ (nameTab.find? (byNum a) = none ∧ nameOf a = [101, 114, 114, 111, 114, 32] ++ digStr a) := by
  cases e : nameTab.find? (byNum a) with
  | some x =>
    left
    refine ⟨x, List.mem_of_find?_eq_some e, ?_, by rw [nameOf, e]⟩
    have := List.find?_some e
    simpa [byNum] using this
  | none => right; exact ⟨rfl, by rw [nameOf, e]⟩
theorem tab_ne_error (x : Nat × List UInt8) (hx : x ∈ nameTab) (a : Int) : x.2 ≠ [101, 114, 114, 111, 114, 32] ++ digStr a := by
  intro e
  have := tab_nospace x hx
  rw [e] at this
  simp at this
theorem nameOf_inj (a b : Int) : (nameOf a == nameOf b) = (a == b) := by
  rw [Bool.eq_iff_iff]
  simp only [beq_iff_eq]
  constructor
  · intro h
    rcases nameOf_cases a with ⟨x, hx, ha, e1⟩ | ⟨_, e1⟩ <;> rcases nameOf_cases b with ⟨y, hy, hb, e2⟩ | ⟨_, e2⟩
    · have := tab_once x hx y hy
      rw [e1, e2] at h
      rw [h] at this
      simp at this
      omega
    · exact absurd (e1 ▸ h.trans e2) (tab_ne_error x hx b)
    · exact absurd (e2 ▸ h.symm.trans e1) (tab_ne_error y hy a)
    · rw [e1, e2] at h
      exact digStr_inj (List.append_cancel_left h)
  · rintro rfl; rfl
theorem errOf_name (a : Int) : (errOf (nameOf a)).isSome = true → (((errOf (nameOf a)).getD 0 : Nat) : Int) = a := by
  intro h
  rcases nameOf_cases a with ⟨x, hx, ha, e1⟩ | ⟨_, e1⟩
  · have := tab_num x hx
    rw [e1, errOf, show byName x.2 = (fun y => y.2 == x.2) from rfl, this]
    exact ha
  · exfalso
    rw [errOf, Option.isSome_map] at h
    obtain ⟨y, hy⟩ := Option.isSome_iff_exists.1 h
    have h1 := List.find?_some hy
    simp only [byName, beq_iff_eq] at h1
    exact tab_ne_error y (List.mem_of_find?_eq_some hy) a (h1.trans e1)
end Go.Proofs.Ytnjfghlgknnhmaa
