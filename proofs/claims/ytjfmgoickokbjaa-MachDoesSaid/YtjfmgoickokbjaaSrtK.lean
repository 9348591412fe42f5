/-
  Walks: slices.Sort at uint64; slices.ContainsFunc at bytes that are not 0.
-/
import Derived.Test.YtjfmgoickokbjaaSrtJ
namespace Go.Proofs.Ytjfmgoickokbjaa
open Go.RowKit

theorem ucells_one {l : List Nat} : ∀ v ∈ ucells l, v.oneCell' = true := by
  intro v hv
  simp only [ucells, List.mem_map] at hv
  obtain ⟨x, _, rfl⟩ := hv
  rfl

set_option maxRecDepth 100000 in
set_option maxHeartbeats 1000000 in
theorem len0_walk (w : World) : Calls Try.prog 70 #[.int .u64 0] w fun e w' => e = .returned (.int .i64 0) ∧ w' = w := by
  have h64 : Calls Try.prog 81 #[.int .u64 0] w fun e w' => e = .returned (.int .i64 0) ∧ w' = w := by
    have hr := fun W => run_len8 W 0 (by omega)
    have e0 : len8N 0 = 0 := by decide +kernel
    rw [e0] at hr
    unfold len8 at hr
    go_enter Try.func81, Try.ntmps81
    go_wp2
    go_ret
    exact ⟨by first | rfl | (simp; rfl) | (simp; decide +kernel), rfl⟩
  go_enter Try.func70, Try.ntmps70
  go_wp2_with fail
  refine Calls.mono h64 ?_
  rintro e w' ⟨rfl, rfl⟩
  go_wp2
  go_ret
  exact ⟨rfl, rfl⟩
set_option maxRecDepth 100000 in
set_option maxHeartbeats 1000000 in
theorem sortNil_walk (A : Option Addr) (c : Nat) (w : World) : Calls Try.prog 63 #[.slice A 0 c] w fun e w' => e = .returned (.tuple #[]) ∧ w' = w := by
  have hins : Calls Try.prog 71 #[.slice A 0 c, .int .i64 0, .int .i64 0] w fun e w' => e = .returned (.tuple #[]) ∧ w' = w := by
    go_enter Try.func71, Try.ntmps71
    go_wp2
    go_loopw [6] (fun i wr => i = .int .i64 1 ∧ wr = w) (fun _ _ => 0)
    case atStart => exact ⟨rfl, rfl⟩
    case round =>
      obtain ⟨rfl, rfl⟩ := hrel
      go_wp2
      first | go_end0 | skip
      first | exact ⟨rfl, rfl⟩ | exact ⟨rfl, _, results_none rfl _ _ _, rfl, rfl⟩
  have hpdq : Calls Try.prog 69 #[.slice A 0 c, .int .i64 0, .int .i64 0, .int .i64 0] w fun e w' => e = .returned (.tuple #[]) ∧ w' = w := by
    go_enter Try.func69, Try.ntmps69
    go_wp2
    go_loopw [1, 2, 3, 8, 9] (fun a b c d e wr => a = .int .i64 0 ∧ b = .int .i64 0 ∧ c = .int .i64 0 ∧ d = .bool true ∧ e = .bool true ∧ wr = w) (fun _ _ _ _ _ _ => 0)
    case atStart => exact ⟨rfl, rfl, rfl, rfl, rfl, rfl⟩
    case round =>
      obtain ⟨rfl, rfl, rfl, rfl, rfl, rfl⟩ := hrel
      go_wp2_with fail
      refine Calls.mono hins ?_
      rintro e w' ⟨rfl, rfl⟩
      go_wp2
      first | go_end0 | skip
      first | exact ⟨rfl, rfl⟩ | exact ⟨rfl, _, results_none rfl _ _ _, rfl, rfl⟩
  have hl := len0_walk w
  go_enter Try.func63, Try.ntmps63
  go_wp2_with fail
  refine Calls.mono hl ?_
  rintro e w' ⟨rfl, rfl⟩
  go_wp2_with fail
  refine Calls.mono hpdq ?_
  rintro e w' ⟨rfl, rfl⟩
  go_wp2
  first | go_end0 | skip
  first | exact ⟨rfl, rfl⟩ | exact ⟨rfl, _, results_none rfl _ _ _, rfl, rfl⟩
set_option maxRecDepth 100000 in
set_option maxHeartbeats 1000000 in
theorem sort_walk (g : Nat) (R : List Value) (d : Array Nat) (n cap : Nat) (hn : d.size = n) (h0 : 0 < n) (hn5 : n ≤ 1000000) (w : World) (hN : NR w g d R) :
    Calls Try.prog 63 #[.slice (some ⟨g, 0, none⟩) n cap] w (SRet w g R fun d' => Sort.PermIn 0 n d d' ∧ Sort.SortedIn ltN 0 n d') := by
  have hw : IntKind.u64.wrap (n : Int) = (n : Int) := IntWalk.u64_in _ (by omega)
  have hl := len_walk n h0 hn5 w
  go_enter Try.func63, Try.ntmps63
  go_wp2_with fail
  refine Calls.mono hl ?_
  rintro e w' ⟨⟨L, hL, rfl⟩, rfl⟩
  have hp := pdq_walk g R n cap hn5 n d 0 n L w' (by omega) hn (by omega) (by omega) (by have := hL.2; omega) (Or.inl rfl) hN
  clear hl hL
  go_wp2_with fail
  refine Calls.mono hp ?_
  rintro e W2 ⟨rfl, d2, hd2, hN2, hC2⟩
  have hd2 := Lib.hid hd2
  clear hp
  go_wp2
  refine bodyPost_ret (results_none rfl _ _ _) rfl ?_
  exact ⟨rfl, d2, hd2.out, hN2, hC2⟩

/-- some byte is not 0 -/
def someB (l : List UInt8) : Bool := l.any fun b => b != 0
set_option maxRecDepth 100000 in
set_option maxHeartbeats 1000000 in
theorem nz_walk (b : UInt8) (w : World) : Calls Try.prog 54 #[.int .u8 (b.toNat : Int)] w fun e w' => e = .returned (.bool (b != 0)) ∧ w' = w := by
  have hb : ((b.toNat : Int) != 0) = (b != 0) := by
    have h1 : b.toNat = 0 ↔ b = 0 := UInt8.toNat_inj (b := 0)
    rw [Bool.eq_iff_iff]
    simp [← h1]
  go_enter Try.func54, Try.ntmps54
  go_wp2
  go_ret
  exact ⟨by first | rfl | (rw [← hb]; rfl) | (simp [← hb]; done), rfl⟩
set_option maxRecDepth 100000 in
set_option maxHeartbeats 1000000 in
theorem indexF_walk (A : Option Addr) (n c : Nat) (l : List UInt8) (w : World) (hR : Rd w w.heap.size 1 A n (bcells l)) (hn : n ≤ 1000000) :
    Calls Try.prog 65 #[.slice A n c, .func (.func 54) #[] #[]] w fun e w' => (∃ k : Int, e = .returned (.int .i64 k) ∧ decide (0 ≤ k) = someB l) ∧ w' = w := by
  have hl : n = l.length := by have := hR.len; rw [bcells_length] at this; omega
  have HL := Lib.hid hl
  have hf := Try.func54
  clear hl
  go_enter Try.func65, Try.ntmps65
  go_wp2
  go_loopw [8] (fun i wr => ∃ k : Nat, k ≤ n ∧ i = .int .i64 (k : Int) ∧ Hid (someB (l.take k) = false) ∧ wr = w) (fun i _ => n - (intOf i).toNat)
  case atStart => exact ⟨0, Nat.zero_le _, rfl, Lib.hid rfl, rfl⟩
  case round =>
    obtain ⟨k, hk, rfl, hs, rfl⟩ := hrel
    by_cases hlt : k < n
    · have hlti : (k : Int) < (n : Int) := by omega
      have hkl : k < l.length := by rw [← HL.out]; exact hlt
      obtain ⟨b, off, rfl, hb, hrg⟩ := hR.range (by omega)
      have hcell : wr.cell? ⟨b, off + k, none⟩ = some (.int .u8 ((l[k].toNat : Nat) : Int)) := hrg k _ (by simp [bcells, hkl])
      obtain ⟨x, hx⟩ : ∃ x, x = l[k] := ⟨_, rfl⟩
      rw [← hx] at hcell
      have HX := Lib.hid hx
      have hcall := nz_walk x wr
      clear hx
      go_wp2_with fail
      refine Calls.mono hcall ?_
      rintro e w' ⟨rfl, rfl⟩
      have hkl : k < l.length := by rw [← HL.out]; exact hlt
      have htk := Lib.hid (show someB (l.take (k + 1)) = (someB (l.take k) || (l[k] != 0)) by unfold someB; rw [List.take_succ_eq_append_getElem hkl, List.any_append, List.any_cons, List.any_nil, Bool.or_false])
      cases hq : (x != 0) with
      | true =>
        have hfin : Hid (someB l = true) := Lib.hid (by
          have h1 := htk.out
          rw [hs.out, ← HX.out, hq] at h1
          unfold someB at h1 ⊢
          rw [← List.take_append_drop (k + 1) l, List.any_append, h1]; rfl)
        clear hcall hq
        go_wp2
        go_ret
        exact ⟨⟨_, rfl, by rw [hfin.out]; exact decide_eq_true (by omega)⟩, rfl⟩
      | false =>
        have hs2 : Hid (someB (l.take (k + 1)) = false) := Lib.hid (by rw [htk.out, hs.out, ← HX.out, hq]; rfl)
        clear hcall hq
        go_wp2
        go_roundw
        case rel => exact ⟨k + 1, by omega, by go_num, hs2, by first | rfl | trivial⟩
        case measure => simp [intOf]; omega
    · have hlti : ¬ (k : Int) < (n : Int) := by omega
      have hfin : Hid (someB l = false) := Lib.hid (by have := hs.out; rwa [List.take_of_length_le (by rw [← HL.out]; omega)] at this)
      go_wp2
      go_ret
      exact ⟨⟨_, rfl, by rw [hfin.out]; rfl⟩, rfl⟩
set_option maxRecDepth 100000 in
set_option maxHeartbeats 1000000 in
theorem containsF_walk (A : Option Addr) (n c : Nat) (l : List UInt8) (w : World) (hR : Rd w w.heap.size 1 A n (bcells l)) (hn : n ≤ 1000000) :
    Calls Try.prog 53 #[.slice A n c, .func (.func 54) #[] #[]] w fun e w' => e = .returned (.bool (someB l)) ∧ w' = w := by
  have hcall := indexF_walk A n c l w hR hn
  go_enter Try.func53, Try.ntmps53
  go_wp2_with fail
  refine Calls.mono hcall ?_
  rintro e w' ⟨⟨k, rfl, hk⟩, rfl⟩
  go_wp2
  go_ret
  exact ⟨by rw [← hk]; first | rfl | (simp; done), rfl⟩
end Go.Proofs.Ytjfmgoickokbjaa
