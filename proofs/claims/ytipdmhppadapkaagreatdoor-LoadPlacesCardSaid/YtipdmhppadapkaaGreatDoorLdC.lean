/-
  Walk: asked: checks, one behind the other.
-/
import Derived.Test.YtipdmhppadapkaaGreatDoorLdB
namespace Go.Proofs.YtipdmhppadapkaaGreatDoor
open Go.RowKit Sha

set_option maxRecDepth 100000 in
set_option maxHeartbeats 2000000 in
theorem asked_any (n : Nat) (hn : n ≤ 100) (b : Nat) (K : Nat → FuncId) (caps : Nat → Array Value) (E : Nat → Int) (S : Nat → World → Prop) (G : World → Prop) (w : World)
    (hfn : ∀ k, k < n → ∃ fn c, Tryz.prog.funcs[K k]? = some fn ∧ fn.body = some c ∧ (fn.name == "runtime.NumGoroutine") = false)
    (hcell : ∀ k W, S k W → ∀ j, j < n → W.cell? ⟨b, j, none⟩ = some (.func (.func (K j)) #[] (caps j)))
    (hG : ∀ k W, S k W → G W)
    (hcall : ∀ k, k < n → ∀ W, S k W → (∀ i, i < k → E i = 0) → Calls Tryz.prog (K k) (caps k) W fun e W' => e = .returned (.int .i64 (E k)) ∧ (E k = 0 → S (k + 1) W') ∧ G W')
    (h0 : S 0 w) :
    Calls Tryz.prog 27 #[.slice (some ⟨b, 0, none⟩) n n] w fun e w' => e = .returned (.int .i64 (firstE E n)) ∧ (firstE E n = 0 → S n w') ∧ G w' := by
  have Hfn := Lib.hid hfn
  have Hcell := Lib.hid hcell
  have HG := Lib.hid hG
  have Hcall := Lib.hid hcall
  clear hfn hcell hG hcall
  go_enter Tryz.func27, Tryz.ntmps27
  go_wp2
  go_loopw [8] (fun v wr => ∃ k : Nat, k ≤ n ∧ v = .int .i64 k ∧ Hid (firstE E k = 0) ∧ Hid (S k wr)) (fun v _ => n - (intOf v).toNat)
  case atStart => exact ⟨0, Nat.zero_le _, rfl, Lib.hid rfl, Lib.hid h0⟩
  case round =>
    clear h0
    obtain ⟨k, hk, rfl, hf, hS⟩ := hrel
    by_cases hlt : k < n
    · have cc := Hcell.out k wr hS.out k hlt
      obtain ⟨fn, c, q1, q2, q3⟩ := Hfn.out k hlt
      obtain ⟨F, hF⟩ : ∃ F, F = K k := ⟨_, rfl⟩
      obtain ⟨C, hC⟩ : ∃ C, C = caps k := ⟨_, rfl⟩
      obtain ⟨X, hX⟩ : ∃ X, X = E k := ⟨_, rfl⟩
      have hcl := Hcall.out k hlt wr hS.out (firstE_ok hf.out)
      rw [← hF, ← hC, ← hX] at hcl
      rw [← hF, ← hC] at cc
      rw [← hF] at q1
      have hnx : Hid (firstE E (k + 1) = X) := Lib.hid (by rw [firstE, if_neg (by simpa using hf.out), hX])
      clear hF hC hX hf hS
      by_cases hx0 : X = 0
      · have hnx0 : Hid (firstE E (k + 1) = 0) := Lib.hid (by rw [hnx.out, hx0])
        subst hx0
        clear hnx
        go_wp2_with ((with_reducible refine at_callF _ ?_); refine wpList_callF rfl rfl rfl q1 q2 q3 (by simp) hcl ?_; rintro e w5 ⟨rfl, hs5, hG5⟩; have hs6 := Lib.hid (hs5 rfl); refine ⟨_, rfl, ?_⟩; clear hcl q1 q2 q3 cc hG5 hs5)
        go_roundw
        case rel => exact ⟨k + 1, by omega, by go_num, hnx0, hs6⟩
        case measure => simp [intOf]; omega
      · have hne : (X != 0) = true := by simpa using hx0
        have hbad : Hid (firstE E n = X) := Lib.hid (by rw [firstE_bad (k := k + 1) (by rw [hnx.out]; exact hx0) n (by omega), hnx.out])
        have HX := Lib.hid hx0
        clear hx0
        go_wp2_with ((with_reducible refine at_callF _ ?_); refine wpList_callF rfl rfl rfl q1 q2 q3 (by simp) hcl ?_; rintro e w5 ⟨rfl, hs5, hG5⟩; have hG6 := Lib.hid hG5; refine ⟨_, rfl, ?_⟩; clear hcl q1 q2 q3 cc hG5 hs5)
        go_ret
        exact ⟨ret_int hbad.out.symm, fun h => absurd h (by rw [hbad.out]; exact HX.out), hG6.out⟩
    · obtain rfl : k = n := by omega
      go_wp2
      go_ret
      exact ⟨ret_int hf.out.symm, fun _ => hS.out, HG.out _ _ hS.out⟩
end Go.Proofs.YtipdmhppadapkaaGreatDoor
