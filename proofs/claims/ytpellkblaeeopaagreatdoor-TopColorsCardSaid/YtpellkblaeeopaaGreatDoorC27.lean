/-
  Parts: WordI GcB WotsA.
-/
import Derived.Test.YtpellkblaeeopaaGreatDoorC26
import Derived.Test.YtpellkblaeeopaaGreatDoorC09
import Derived.Test.YtpellkblaeeopaaGreatDoorC17
import Derived.Test.YtpellkblaeeopaaGreatDoorC03
import Derived.RangeFuncNested
import Derived.RangeFuncBound
import Derived.RangeFuncCalls
import Derived.RangeFuncLeaves
import Derived.RangeFuncFrom
import Derived.Shelf.Abstract
import Derived.Shelf.RegionOpen
import Derived.WalkKit
import Derived.OwnWalkIn
import Derived.TacticsInMore
import Derived.LoopNIn
import Derived.LoopIn
/-
  Walks: word.Down, Up, Aligned, portreeveref01.Down, Up; the statement WordAligns.
-/
namespace Go.Proofs.YtpellkblaeeopaaGreatDoor
open Go.RowKit

def downN (n a : Nat) : Nat := if a = 0 then 0 else n - n % a
def upN (n a : Nat) : Nat := if a = 0 then 0 else if n % a = 0 then n else if n - n % a + a < P64 then n - n % a + a else 0
def upB (n a : Nat) : Bool := decide (a ≠ 0 ∧ (n % a = 0 ∨ n - n % a + a < P64))
section
variable (n a : Nat) (w : World)
set_option maxRecDepth 100000 in
set_option maxHeartbeats 400000 in
theorem down_any (hn : n < P64) (_ha : a < P64) : Calls Tryz.prog 51 #[.int .u64 n, .int .u64 a] w fun e w' => e = .returned (.int .u64 (downN n a : Nat)) ∧ w = w' := by
  unfold P64 at hn
  by_cases h0 : a = 0
  · have h1 : ((a : Int) == 0) = true := by simp [h0]
    have e : downN n a = 0 := by rw [downN, if_pos h0]
    rw [e]; clear e h0
    go_enter Tryz.func51, Tryz.ntmps51
    go_wp2
    go_ret
    exact ⟨rfl, rfl⟩
  · have h1 : ((a : Int) == 0) = false := by simp [h0]
    have e : downN n a = n - n % a := by rw [downN, if_neg h0]
    have hle : n % a ≤ n := Nat.mod_le _ _
    have e2 : ((n - n % a : Nat) : Int) = (n : Int) - (n : Int) % (a : Int) := by omega
    rw [e]
    have E2 := Lib.hid e2
    have hi : (n : Int) % (a : Int) ≤ n := by omega
    have hj : 0 ≤ (n : Int) % (a : Int) := by omega
    clear e e2 hle
    go_enter Tryz.func51, Tryz.ntmps51
    go_wp2
    go_ret
    exact ⟨by rw [E2.out]; rfl, rfl⟩
set_option maxRecDepth 100000 in
set_option maxHeartbeats 400000 in
theorem up_any (hn : n < P64) (ha : a < P64) : Calls Tryz.prog 19 #[.int .u64 n, .int .u64 a] w fun e w' => e = .returned (.tuple #[.int .u64 (upN n a : Nat), .bool (upB n a)]) ∧ Below w.heap.size w w' := by
  have hn' := hn
  have ha' := ha
  unfold P64 at hn ha
  by_cases h0 : a = 0
  · have h1 : ((a : Int) == 0) = true := by simp [h0]
    have e : upN n a = 0 ∧ upB n a = false := ⟨by rw [upN, if_pos h0], by rw [upB]; simp [h0]⟩
    rw [e.1, e.2]; clear e h0 hn' ha'
    go_enter Tryz.func19, Tryz.ntmps19
    go_wp2
    go_ret2
    exact ⟨rfl, Below.refl _ _⟩
  · have h1 : ((a : Int) == 0) = false := by simp [h0]
    have hd : downN n a = n - n % a := by rw [downN, if_neg h0]
    have hle : n % a ≤ n := Nat.mod_le _ _
    by_cases hz : n % a = 0
    · have e : upN n a = n ∧ upB n a = true := ⟨by rw [upN, if_neg h0, if_pos hz], by rw [upB]; simp [h0, hz]⟩
      have hd' : downN n a = n := by omega
      rw [e.1, e.2]
      have HD := Lib.hid hd'
      clear e h0 hd hle hz hd'
      go_enter Tryz.func19, Tryz.ntmps19
      go_wp2_with (go_at_call 51; refine (down_any n a _ hn' ha').mono ?_; rintro e w' ⟨rfl, rfl⟩; rw [HD.out])
      go_ret2
      exact ⟨rfl, Below.refl _ _⟩
    · have hne : ((downN n a : Nat) == (n : Int)) = false := by
        rw [hd]; simp; omega
      have hne' : (((downN n a : Nat) : Int) == (n : Int)) = false := hne
      have hlow : downN n a < P64 := by omega
      have e1 : addNum [downN n a, a] = upN n a := by
        rw [addNum, upN, if_neg h0, if_neg hz, hd]
        have hs : [n - n % a, a].sum = n - n % a + a := by simp only [List.sum_cons, List.sum_nil, Nat.add_zero]
        by_cases hc : n - n % a + a < P64
        · rw [if_pos (by rw [hs]; exact hc), if_pos hc, hs]
        · rw [if_neg (by rw [hs]; exact hc), if_neg hc]
      have e2 : addOk [downN n a, a] = upB n a := by
        rw [addOk, upB, hd]
        simp only [List.sum_cons, List.sum_nil, Nat.add_zero]
        exact decide_eq_decide.2 ⟨fun h => ⟨h0, .inr h⟩, fun h => h.2.resolve_left hz⟩
      have hall : ∀ x ∈ [downN n a, a], x < P64 := by
        intro x hx
        simp only [List.mem_cons, List.not_mem_nil, or_false] at hx
        rcases hx with rfl | rfl <;> assumption
      generalize hD : downN n a = D at *
      have HD := Lib.hid hD
      have E1 := Lib.hid e1; have E2 := Lib.hid e2; have HA := Lib.hid hall
      clear e1 e2 hall hd hne hlow hz hle h0 hD
      have hdn := down_any n a w hn' ha'
      rw [HD.out] at hdn
      have HC := Lib.hid hdn
      clear hdn
      go_enter Tryz.func19, Tryz.ntmps19
      go_wp2_with (go_at_call 51; refine HC.out.mono ?_; rintro e w' ⟨rfl, rfl⟩)
      refine (add_any (some ⟨w.heap.size, 0, none⟩) 2 2 [D, a] _ ((Blk.new w 22 #[.int .u64 D, .int .u64 a]).rd rfl) (by omega) HA.out).mono ?_
      rintro e w2 ⟨rfl, rfl⟩
      rw [E1.out, E2.out]
      go_wp2
      go_ret2
      exact ⟨rfl, (Below.refl _ _).alloc (Nat.le_refl _) _⟩
end

end Go.Proofs.YtpellkblaeeopaaGreatDoor
/-
  Walk: color.Count over the room of 8192 pages.
-/
namespace Go.Proofs.YtpellkblaeeopaaGreatDoor
open Go.RowKit

def roomA : Sp := ⟨1090519040, 33554432⟩
theorem roomA_ok : roomA.ok := ⟨by decide, by decide⟩
theorem roomA_good : roomA.good = true := by decide
def countV (n : Int) (mask : Nat) : Nat := 8192 / n.toNat * bitsOf 64 mask
theorem bits64_le (x : Nat) : bitsOf 64 x ≤ 64 := by
  have : ∀ k, bitsOf k x ≤ k := fun k => by
    unfold bitsOf
    induction k with
    | zero => simp
    | succ k ih => rw [List.range_succ, List.map_append, List.sum_append]; simp; omega
  exact this 64

set_option maxRecDepth 100000 in
set_option maxHeartbeats 1000000 in
theorem count_any (n : Int) (mask : Nat) (hmk : mask < 18446744073709551616) (hok : maskOk n mask = true) (w : World) :
    Calls Tryz.prog 22 #[.agg roomA.cells, .int .i64 n, .int .u64 (mask : Int)] w fun e w' => e = .returned (.int .u64 (countV n mask : Nat)) ∧ Below w.heap.size w w' := by
  have hb := Blk.new w 25 roomA.cells
  have B0 : Below w.heap.size w (w.alloc (.cells roomA.cells 25)) := (Below.refl _ _).alloc (Nat.le_refl _) _
  have hm := fun W => masked_any n mask hmk W
  rw [hok] at hm
  have hu := fun W => up_any 1090519040 4096 W (by decide) (by decide)
  rw [show upN 1090519040 4096 = 1090519040 by decide, show upB 1090519040 4096 = true by decide] at hu
  have hg : ∀ W, Calls Tryz.prog 20 #[.agg #[.int .u64 1090519040, .int .u64 33554432]] W (BoolRet W true) := fun W => by have := good_any roomA roomA_ok W; rw [roomA_good] at this; exact this
  have hl : ∀ W, Calls Tryz.prog 17 #[.agg #[.int .u64 1090519040, .int .u64 33554432]] W (NatRet W 1124073471) := fun W => by have := last_any roomA roomA_ok W; rw [show roomA.last = 1124073471 by decide] at this; exact this
  have hones := fun W => onesC_any mask hmk W
  obtain ⟨B, hB⟩ : ∃ B, B = bitsOf 64 mask := ⟨_, rfl⟩
  have hB64 := bits64_le mask
  have hv : countV n mask = 8192 / n.toNat * B := by rw [countV, hB]
  rw [← hB] at hones hB64
  have h7 := colN_cases (n := n) (by simp only [maskOk, Bool.and_eq_true] at hok; exact hok.1.1)
  rw [hv]
  clear hok hv hB
  have c0 : (w.alloc (.cells roomA.cells 25)).cell? ⟨w.heap.size, 0, none⟩ = some (.int .u64 1090519040) := (hb.cell 0).trans rfl
  go_enter Tryz.func22, Tryz.ntmps22
  go_wp2_with fail
  generalize w.alloc (.cells roomA.cells 25) = W1 at *
  refine (hu W1).mono ?_
  rintro e W2 ⟨rfl, hB2⟩
  have hb2 := hb.below hB2 hb.lt
  have B2 := B0.trans (hB2.mono B0.size)
  clear hb B0 hB2 c0 hu
  go_wp2_with fail
  refine (hm W2).mono ?_
  rintro e w' ⟨rfl, hw'⟩
  subst hw'
  clear hm
  have k0 : w'.cell? ⟨w.heap.size, 0, none⟩ = some (.int .u64 1090519040) := (hb2.cell 0).trans rfl
  have k1 : w'.cell? ⟨w.heap.size, 1, none⟩ = some (.int .u64 33554432) := (hb2.cell 1).trans rfl
  go_wp2_with fail
  refine (hg _).mono ?_
  rintro e W3 ⟨rfl, hB3⟩
  have hb3 := hb2.below hB3 hb2.lt
  have B3 := B2.trans (hB3.mono B2.size)
  clear hb2 B2 hB3 hg k0 k1
  have k0 : W3.cell? ⟨w.heap.size, 0, none⟩ = some (.int .u64 1090519040) := (hb3.cell 0).trans rfl
  have k1 : W3.cell? ⟨w.heap.size, 1, none⟩ = some (.int .u64 33554432) := (hb3.cell 1).trans rfl
  go_wp2_with fail
  refine (hl _).mono ?_
  rintro e W4 ⟨rfl, hB4⟩
  have hb4 := hb3.below hB4 hb3.lt
  have B4 := B3.trans (hB4.mono B3.size)
  clear hb3 B3 hB4 k0 k1
  have k0 : W4.cell? ⟨w.heap.size, 0, none⟩ = some (.int .u64 1090519040) := (hb4.cell 0).trans rfl
  have k1 : W4.cell? ⟨w.heap.size, 1, none⟩ = some (.int .u64 33554432) := (hb4.cell 1).trans rfl
  go_wp2_with fail
  refine (hl _).mono ?_
  rintro e W5 ⟨rfl, hB5⟩
  have B5 := B4.trans (hB5.mono B4.size)
  clear hb4 B4 hB5 hl k0 k1
  obtain ⟨m, hm⟩ : ∃ m : Nat, n = (m : Int) := ⟨n.toNat, by omega⟩
  subst hm
  obtain ⟨q, hq⟩ : ∃ q, q = 8192 / m := ⟨_, rfl⟩
  have hq1 : (8192 : Int) / (m : Int) = (q : Int) := by rw [hq]; push_cast; rfl
  have hr1 : (8192 : Int) % (m : Int) = 0 := by rcases h7 with h | h | h | h | h | h | h <;> rw [h] <;> decide
  have hm64 : 1 ≤ m ∧ m ≤ 64 := by omega
  have hq8 : q ≤ 8192 := by rw [hq]; exact Nat.div_le_self _ _
  have hm0 : ((m : Int) == 0) = false := by simp; omega
  have hw : IntKind.u64.wrap (m : Int) = (m : Int) := IntWalk.u64_in _ (by omega)
  have hBw : IntKind.u64.wrap (B : Int) = (B : Int) := IntWalk.u64_in _ (by omega)
  have hqB : q * B ≤ 8192 * 64 := Nat.mul_le_mul hq8 hB64
  have hmul : IntKind.u64.wrap ((q : Int) * (B : Int)) = ((q * B : Nat) : Int) := by
    have : (q : Int) * (B : Int) = ((q * B : Nat) : Int) := by push_cast; rfl
    rw [this]; exact IntWalk.u64_in _ (by omega)
  have HQ : Hid (8192 / (m : Int).toNat * B = q * B) := Lib.hid (by rw [hq]; simp)
  clear h7 hq hqB hq8
  go_wp2
  go_quiet (fail)
  have Bq := fun nq => below_drewN B5 nq
  go_wp2_with fail
  refine (hones _).mono ?_
  rintro e w9 ⟨rfl, hw9⟩
  subst hw9
  go_wp2
  go_loopw [12, 59] (fun s v wr => v = .int .u64 0 ∧ s = .int .u64 ((q * B : Nat) : Int) ∧ wr = W5.drewN nq) (fun _ _ _ => 0)
  case atStart => exact ⟨rfl, by first | rfl | rw [hmul] | simp, rfl⟩
  case round =>
    obtain ⟨rfl, rfl, rfl⟩ := hrel
    go_wp2
    go_ret
    refine ⟨?_, Bq nq⟩
    rw [HQ.out]
    rfl
end Go.Proofs.YtpellkblaeeopaaGreatDoor
/-
  Walk: the iterator of the digits of a message (wots.digits): what it yields, in order.
-/
namespace Go.Proofs.YtpellkblaeeopaaGreatDoor
open Go.RowKit Go.Shelf

attribute [local go_sem] Oper.semAt_some

def upto {α : Type} (f : Nat → α) (k : Nat) : List α := (List.range k).map f
theorem upto_succ {α : Type} (f : Nat → α) (k : Nat) : upto f (k + 1) = upto f k ++ [f k] := by simp [upto, List.range_succ]
theorem upto_length {α : Type} (f : Nat → α) (k : Nat) : (upto f k).length = k := by simp [upto]
end Go.Proofs.YtpellkblaeeopaaGreatDoor
