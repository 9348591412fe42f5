/-
  Walk: xmss.able: whether a key of a kind can sign at an index.
-/
import Derived.Test.YtgfdjfglfipjfaaDoorXmB
namespace Go.Proofs.YtgfdjfglfipjfaaDoor
open Go.RowKit Sha

def ableErr (o i n : Nat) : Int := if isKind o = false then 80 else if n = hgt o ∧ i < 2 ^ hgt o then 0 else 81

set_option maxRecDepth 100000 in
set_option maxHeartbeats 2000000 in
theorem able_any (o i : Nat) (A : Option Addr) (n c : Nat) (w : World) :
    Calls Tryd.prog 40 #[.int .u32 (o : Int), .int .u32 (i : Int), .slice A n c] w fun e w' => e = .returned (.int .i64 (ableErr o i n)) ∧ w' = w := by
  have hh : hgt o ≤ 20 := by unfold hgt; split; omega; split; omega; split <;> omega
  obtain ⟨V, hV0⟩ : ∃ V, V = ableErr o i n := ⟨_, rfl⟩
  rw [← hV0]
  have HV := Lib.hid hV0
  clear hV0
  go_enter Tryd.func40, Tryd.ntmps40
  go_wp2_with fail
  refine (mHeight_any o w).mono ?_
  rintro e w' ⟨rfl, rfl⟩
  cases hk : isKind o with
  | false =>
    have hV : Hid (V = 80) := Lib.hid (by rw [HV.out]; unfold ableErr; rw [if_pos hk])
    clear HV
    go_wp2
    go_ret
    exact ⟨by rw [hV.out]; rfl, rfl⟩
  | true =>
    have hdp := div_pow_eq i (hgt o)
    have hv : Hid (V = if n = hgt o ∧ i < 2 ^ hgt o then 0 else 81) := Lib.hid (by rw [HV.out]; unfold ableErr; rw [if_neg (by simp [hk])])
    clear HV
    generalize hgt o = h at *
    by_cases e1 : n = h
    · subst e1
      by_cases e2 : i < 2 ^ n
      · have hd : (((i : Int) / 2 ^ n) == 0) = true := by rw [hdp]; simpa using e2
        have hd2 : ((i : Int) / 2 ^ n) = 0 := by simpa using hd
        have hV : Hid (V = 0) := Lib.hid (by rw [hv.out, if_pos ⟨rfl, e2⟩])
        clear hdp e2 hd hv
        go_wp2
        all_goals
          go_ret
          exact ⟨by rw [hV.out]; rfl, rfl⟩
      · have hd : (((i : Int) / 2 ^ n) == 0) = false := by rw [hdp]; simpa using e2
        have hd2 : ¬ ((i : Int) / 2 ^ n) = 0 := by simpa using hd
        have hV : Hid (V = 81) := Lib.hid (by rw [hv.out, if_neg (fun h => e2 h.2)])
        clear hdp e2 hd hv
        go_wp2
        all_goals
          go_ret
          exact ⟨by rw [hV.out]; rfl, rfl⟩
    · have hne : ¬ (n : Int) = (h : Int) := by omega
      have hV : Hid (V = 81) := Lib.hid (by rw [hv.out, if_neg (fun h => e1 h.1)])
      clear hdp hv e1
      go_wp2
      all_goals
        go_ret
        exact ⟨by rw [hV.out]; rfl, rfl⟩
end Go.Proofs.YtgfdjfglfipjfaaDoor
