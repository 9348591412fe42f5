/-
  Walk: portreeveref29.Digits16.
-/
import Derived.Test.YtnjfghlgknnhmaaNodeA
namespace Go.Proofs.Ytnjfghlgknnhmaa
open Go.RowKit

theorem cat2 (S : List UInt8) (x y : UInt8) : (⟨S.toArray⟩ : ByteArray) ++ ⟨#[x, y]⟩ = ⟨(S ++ [x, y]).toArray⟩ := ByteArray.mk_append_mk S [x, y]

attribute [local irreducible] Utf8.encode
set_option maxRecDepth 100000 in
set_option maxHeartbeats 2000000 in
theorem rDigits16_any (A : Option Addr) (n c : Nat) (l : List UInt8) (w : World) (h : Rd w w.heap.size 1 A n (bcells l)) (hn : n ≤ 1000) :
    Calls Try.prog 44 #[.slice A n c] w fun e w' => e = .returned (.string ⟨(hexL l).toArray⟩) ∧ Below w.heap.size w w' := by
  have hl : l.length = n := by have := h.len; rw [bcells_length] at this; omega
  have Hl := Lib.hid hl
  clear hl
  obtain ⟨H, hH0⟩ : ∃ H, H = hexL l := ⟨_, rfl⟩
  rw [← hH0]
  have HH := Lib.hid hH0
  clear hH0
  go_enter Try.func44, Try.ntmps44
  go_wp2_with fail
  go_loopw [3, 8] (fun s i wr => ∃ k : Nat, k ≤ n ∧ i = .int .i64 k ∧ ∃ S : List UInt8, Hid (S = hexL (l.take k)) ∧ s = .string ⟨S.toArray⟩ ∧ Below w.heap.size w wr) (fun _ i _ => n - (intOf i).toNat)
  case atStart => exact ⟨0, Nat.zero_le _, rfl, [], Lib.hid rfl, rfl, Below.refl _ _⟩
  case round =>
    obtain ⟨k, hk, rfl, S, HS, rfl, hB⟩ := hrel
    by_cases hkn : k < n
    · have hkl : k < l.length := by rw [Hl.out]; exact hkn
      have hSl : S.length ≤ 2000 := by rw [HS.out, hexL_length, List.length_take]; omega
      obtain ⟨d, hd⟩ : ∃ d, d = l[k] := ⟨_, rfl⟩
      obtain ⟨a, rfl, hlt, hc⟩ := (h.below hB).cell k (.int .u8 d.toNat) (by rw [bcells_get l k hkl, List.getElem?_eq_getElem hkl, ← hd]; rfl)
      obtain ⟨b, hb8⟩ : ∃ b, b = d.toNat := ⟨_, rfl⟩
      have hc256 : b < 256 := by rw [hb8]; exact d.toNat_lt
      rw [← hb8] at hc
      have Hd := Lib.hid hd
      have Hb := Lib.hid hb8
      clear hd hb8
      go_upto_region 5 with (fail)
      have hand := u8_and15 b hc256
      have hq1 : Hid ((b : Int) / 16 = ((b / 16 : Nat) : Int)) := Lib.hid (by omega)
      have hq2 : Hid ((b : Int) % 16 = ((b % 16 : Nat) : Int)) := Lib.hid (by omega)
      have hr1 : ∀ W, _ := fun W => run_hexIdxZ W _ (b / 16) (by omega) hq1
      have hr2 : ∀ W, _ := fun W => run_hexIdxZ W _ (b % 16) (by omega) hq2
      have hE1 := hexEnc (b / 16) (by omega)
      have hE2 := hexEnc (b % 16) (by omega)
      have hB' := hB
      clear hB
      refine Flow.wp_region_flow (w.heap.size) [] [] (by kernel_rfl) (by kernel_rfl) hB'.drew.size (fun _ h => by cases h) Flow.facts_nil ?_
      refine Flow.pass_old 3 (Flow.met_none rfl) (.inl rfl) (by kernel_rfl) (by kernel_rfl) rfl ?_
      refine Flow.pass_old 5 (Flow.met_none rfl) (.inl rfl) (by kernel_rfl) (by kernel_rfl) rfl ?_
      refine Flow.pass_val (.int .u8 ((b : Int) / 16)) (Flow.met_none rfl) (fun a W hH => ?_) ?_
      · have e0 := Flow.see_new 13 1 hH.sees (by kernel_rfl) (by kernel_rfl) rfl rfl
        go_simp; first | done | rfl
      refine Flow.pass_val (.int .u8 (hexDig (b / 16)).toNat) (Flow.met_none rfl) (fun a W hH => ?_) ?_
      · have e0 := Flow.see_new 14 2 hH.sees (by kernel_rfl) (by kernel_rfl) rfl rfl
        simp [execOp, Act.eval, e0, hr1]
      refine Flow.pass_val ((.string ⟨#[hexDig (b / 16)]⟩)) (Flow.met_none rfl) (fun a W hH => ?_) ?_
      · have e0 := Flow.see_new 15 3 hH.sees (by kernel_rfl) (by kernel_rfl) rfl rfl
        go_simp; first | done | rw [hE1] | simp [hE1]
      refine Flow.pass_old 5 (Flow.met_none rfl) (.inl rfl) (by kernel_rfl) (by kernel_rfl) rfl ?_
      refine Flow.pass_val (.int .u8 ((b : Int) % 16)) (Flow.met_none rfl) (fun a W hH => ?_) ?_
      · have e0 := Flow.see_new 17 5 hH.sees (by kernel_rfl) (by kernel_rfl) rfl rfl
        go_simp; first | done | (rw [hand]; simp) | (simp [hand])
      refine Flow.pass_val (.int .u8 (hexDig (b % 16)).toNat) (Flow.met_none rfl) (fun a W hH => ?_) ?_
      · have e0 := Flow.see_new 18 6 hH.sees (by kernel_rfl) (by kernel_rfl) rfl rfl
        simp [execOp, Act.eval, e0, hr2]
      refine Flow.pass_val ((.string ⟨#[hexDig (b % 16)]⟩)) (Flow.met_none rfl) (fun a W hH => ?_) ?_
      · have e0 := Flow.see_new 19 7 hH.sees (by kernel_rfl) (by kernel_rfl) rfl rfl
        go_simp; first | done | rw [hE2] | simp [hE2]
      refine Flow.pass_val ((.string ⟨#[hexDig (b / 16), hexDig (b % 16)]⟩)) (Flow.met_none rfl) (fun a W hH => ?_) ?_
      · have e0 := Flow.see_new 16 4 hH.sees (by kernel_rfl) (by kernel_rfl) rfl rfl
        have e1 := Flow.see_new 20 8 hH.sees (by kernel_rfl) (by kernel_rfl) rfl rfl
        go_simp; first | done | rfl
      refine Flow.pass_val ((.string ⟨(S ++ [hexDig (b / 16), hexDig (b % 16)]).toArray⟩)) (Flow.met_none rfl) (fun a W hH => ?_) ?_
      · have e0 := Flow.see_new 12 0 hH.sees (by kernel_rfl) (by kernel_rfl) rfl rfl
        have e1 := Flow.see_new 21 9 hH.sees (by kernel_rfl) (by kernel_rfl) rfl rfl
        go_simp; rw [if_neg (by omega), cat2]
      refine Flow.pass_copy 22 10 (Flow.met_none rfl) (.inr rfl) (by kernel_rfl) (by kernel_rfl) rfl rfl (fun _ _ => Flow.kept_eqs _ _) ?_
      refine Flow.pass_end [none, none, none, some 3, none, none, none, none, none, none, none, none, some 12, some 13, some 14, some 15, some 16, some 17, some 18, some 19, some 20, some 21, some 22, none, none] (by kernel_rfl) ?_
      intro f gg w9 hB hfa hT hfg
      have h3 : f 3 = _ := (hfg 3 11 (by kernel_rfl)).trans (hT 11 _ (by kernel_rfl) rfl)
      have B9 := hB'.drew.trans hB
      clear hfa hT hfg hB hr1 hr2 hB' hc hE1 hE2
      simp only [Reg.sel, h3]
      go_wp2
      go_roundw
      case rel =>
        refine ⟨k + 1, by omega, by go_num, _, Lib.hid ?_, rfl, B9⟩
        rw [List.take_succ_eq_append_getElem hkl, hexL_snoc, ← Hd.out, ← Hb.out, HS.out]
      case measure => simp [intOf]; omega
    · have hke : k = n := by omega
      subst hke
      go_wp2
      go_ret
      refine ⟨?_, hB⟩
      rw [HH.out, HS.out, List.take_of_length_le (by rw [Hl.out]; exact Nat.le_refl _)]
      rfl
end Go.Proofs.Ytnjfghlgknnhmaa
