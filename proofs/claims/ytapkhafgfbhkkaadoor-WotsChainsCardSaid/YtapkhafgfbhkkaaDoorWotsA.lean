/-
  Walk: the iterator of the digits of a message (wots.digits): what it yields, in order.
-/
import Derived.Test.YtapkhafgfbhkkaaDoorEq
import Derived.Test.YtapkhafgfbhkkaaDoorStore
import Derived.RangeFuncNested
import Derived.RangeFuncBound
import Derived.RangeFuncCalls
import Derived.RangeFuncLeaves
import Derived.RangeFuncFrom
import Derived.Shelf.Abstract
import Derived.Shelf.RegionOpen
import Derived.WalkKit
import Derived.OwnWalkIn
import Derived.TacticsInMore
import Derived.LoopNIn
import Derived.LoopIn
namespace Go.Proofs.YtapkhafgfbhkkaaDoor
open Go.RowKit Go.Shelf

attribute [local go_sem] Oper.semAt_some

/-- a digit of the message -/
def dig (m : List UInt8) (i : Nat) : Nat := if i % 2 = 0 then (m[i / 2]?.getD 0).toNat / 16 else (m[i / 2]?.getD 0).toNat % 16
def dsum (m : List UInt8) : Nat → Nat
  | 0 => 0
  | k + 1 => dsum m k + (15 - dig m k)
def digAll (m : List UInt8) (i : Nat) : Nat := if i < 64 then dig m i else dsum m 64 / 2 ^ (4 * (66 - i)) % 16
theorem dig_lt (m : List UInt8) (i : Nat) : dig m i < 16 := by
  have := (m[i / 2]?.getD 0).toNat_lt
  unfold dig; split <;> omega
theorem digAll_lt (m : List UInt8) (i : Nat) : digAll m i < 16 := by
  unfold digAll; split
  · exact dig_lt m i
  · exact Nat.mod_lt _ (by decide)
theorem dsum_le (m : List UInt8) : ∀ k, dsum m k ≤ 15 * k
  | 0 => Nat.le_refl _
  | k + 1 => by have := dsum_le m k; simp only [dsum]; omega

theorem i64_and15 (a : Nat) (h : a < 4611686018427387904) : bits .and .i64 (a : Int) 15 = ((a % 16 : Nat) : Int) := by
  show IntKind.i64.wrap ((BitVec.ofInt 64 (a : Int) &&& BitVec.ofInt 64 ((15 : Nat) : Int)).toNat : Int) = _
  have e : ∀ n : Nat, n < 18446744073709551616 → (BitVec.ofInt 64 (n : Int)).toNat = n := fun n hn => by
    rw [BitVec.ofInt_natCast, BitVec.toNat_ofNat]; exact Nat.mod_eq_of_lt (by omega)
  rw [BitVec.toNat_and, e a (by omega), e 15 (by omega), nat_mask4]
  have : a % 16 < 16 := Nat.mod_lt _ (by decide)
  exact IntWalk.i64_in _ (by omega)
theorem hdig_and (m : List UInt8) (k : Nat) : bits .and .i64 (wrap64 (((m[k / 2]?.getD 0).toNat : Int) / 2 ^ (4 - 4 * (k % 2)))) 15 = (dig m k : Nat) := by
  have hb := (m[k / 2]?.getD 0).toNat_lt
  unfold dig
  rcases Nat.mod_two_eq_zero_or_one k with h | h
  · rw [h, if_pos rfl]
    have : wrap64 (((m[k / 2]?.getD 0).toNat : Int) / 2 ^ (4 - 4 * 0)) = (((m[k / 2]?.getD 0).toNat / 16 : Nat) : Int) := by simp only [wrap64]; omega
    rw [this, i64_and15 _ (by omega)]; congr 1; omega
  · rw [h, if_neg (by decide)]
    have : wrap64 (((m[k / 2]?.getD 0).toNat : Int) / 2 ^ (4 - 4 * 1)) = (((m[k / 2]?.getD 0).toNat : Nat) : Int) := by simp only [wrap64]; omega
    rw [this, i64_and15 _ (by omega)]
theorem dsum_int (m : List UInt8) (k : Nat) : (dsum m k : Int) + (15 - (dig m k : Int)) = (dsum m (k + 1) : Nat) := by
  have := dig_lt m k
  simp only [dsum]; omega
theorem hchk (m : List UInt8) (k : Nat) (h1 : 64 ≤ k) (h2 : k < 67) : bits .and .i64 ((dsum m 64 : Int) / 2 ^ (4 * (66 - k))) 15 = (digAll m k : Nat) := by
  have hd := dsum_le m 64
  have hk : k = 64 ∨ k = 65 ∨ k = 66 := by omega
  unfold digAll
  rw [if_neg (by omega)]
  generalize dsum m 64 = s at *
  rcases hk with rfl | rfl | rfl
  · rw [show (s : Int) / 2 ^ (4 * (66 - 64)) = ((s / 256 : Nat) : Int) by omega, i64_and15 _ (by omega)]
  · rw [show (s : Int) / 2 ^ (4 * (66 - 65)) = ((s / 16 : Nat) : Int) by omega, i64_and15 _ (by omega)]
  · rw [show (s : Int) / 2 ^ (4 * (66 - 66)) = ((s : Nat) : Int) by omega, i64_and15 _ (by omega)]; congr 1; omega
/-- a block lies as it lay -/
def Kb (B : Nat) (W W' : World) : Prop := W'.heap[B]? = W.heap[B]?
abbrev dEncs (p : Nat × Nat) : Array Value := #[.int .i64 (p.1 % 67 : Nat), .int .i64 (p.2 % 16 : Nat)]
def upto {α : Type} (f : Nat → α) (k : Nat) : List α := (List.range k).map f
theorem upto_succ {α : Type} (f : Nat → α) (k : Nat) : upto f (k + 1) = upto f k ++ [f k] := by simp [upto, List.range_succ]
theorem upto_length {α : Type} (f : Nat → α) (k : Nat) : (upto f k).length = k := by simp [upto]
theorem upto_prefix {α : Type} (f : Nat → α) {k n : Nat} (h : k ≤ n) : upto f k <+: upto f n := by
  refine ⟨(List.range' k (n - k)).map f, ?_⟩
  simp only [upto, ← List.map_append, List.range_eq_range']
  have := List.range'_append_1 (s := 0) (m := k) (n := n - k)
  rw [Nat.zero_add] at this
  rw [this, Nat.add_sub_cancel' h]
def dpair (m : List UInt8) (k : Nat) : Nat × Nat := (k, digAll m k)
theorem dEncs_pair (m : List UInt8) (k : Nat) (h : k < 67) : dEncs (dpair m k) = #[.int .i64 (k : Nat), .int .i64 (digAll m k : Nat)] := by
  simp only [dEncs, dpair, Nat.mod_eq_of_lt h, Nat.mod_eq_of_lt (digAll_lt m k)]

set_option maxRecDepth 100000 in
set_option maxHeartbeats 2000000 in
theorem digits1_in (F : Fence) (n : Nat) (h9 : F.fn 72) (hro : F.round = none) (hn : 1 ≤ n) (l Bs : Nat) (m : List UInt8) (hm : m.length = 32) (Jv Jx : List (Nat × Nat) → World → Prop)
    (hY : ∀ pre x W, Jv pre W → pre.length < 67 → YieldAt F (n - 1) Tryd.prog l (dEncs x) W fun e W' =>
      (e = .returned (.bool true) ∧ Jv (pre ++ [x]) W' ∧ Kb Bs W W') ∨ (e = .returned (.bool false) ∧ Jx (pre ++ [x]) W'))
    (W : World) (hBs : Blk W Bs 27 (bcells m).toArray) (h0 : Jv [] W) :
    CallsIn F n Tryd.prog 72 #[.func (.yield l) #[] #[], .pointer (some ⟨Bs, 0, none⟩)] W fun e W' => (∃ v, e = .returned v) ∧
      ((∃ ys, ys = upto (dpair m) 67 ∧ Jv ys W') ∨ (∃ pre, pre <+: upto (dpair m) 67 ∧ Jx pre W')) := by
  have hcx : ∀ {wr : World}, Kb Bs W wr → ∀ q, q < 32 → wr.cell? ⟨Bs, q, none⟩ = some (.int .u8 (m[q]?.getD 0).toNat) := fun {wr} hbl q hq => by
    rw [Blk.cell (w := wr) (t := 27) (cs := (bcells m).toArray) (hbl.trans hBs) q]
    simp [bcells, hm, hq]
  refine callsIn_of_wp Tryd.func72 rfl h9 ?_ hro
  simp only [Tryd.ntmps72, List.size_toArray, List.length_cons, List.length_nil, Nat.reduceAdd, Nat.reduceSub, Array.replicate_succ, Array.replicate_zero, List.push_toArray, List.append_toArray, List.nil_append, List.cons_append]
  gi_wp2
  gi_loopw [3, 7] (fun s i wr => ∃ k : Nat, k ≤ 64 ∧ i = .int .i64 k ∧ s = .int .i64 (dsum m k : Nat) ∧ Jv (upto (dpair m) k) wr ∧ Kb Bs W wr)
    (fun _ i _ => 64 - (intOf i).toNat)
  case atStart => exact ⟨0, Nat.zero_le _, rfl, rfl, h0, rfl⟩
  case round =>
    obtain ⟨k, hk, rfl, rfl, hJs, hnx⟩ := hrel
    by_cases hlt : k < 64
    · have hyy := hY _ (dpair m k) wr hJs (by rw [upto_length]; omega)
      rw [dEncs_pair m k (by omega)] at hyy
      obtain ⟨fn, tmps, assign, body, hy, hR⟩ := hyy
      have hcell := hcx hnx (k / 2) (by omega)
      have hds := dsum_le m k
      have hdg := dig_lt m k
      have hand := hdig_and m k
      have hsub : wrap64 (15 - (dig m k : Int)) = ((15 - dig m k : Nat) : Int) := by simp only [wrap64]; omega
      have hadd : wrap64 ((dsum m k : Int) + ((15 - dig m k : Nat) : Int)) = (dsum m (k + 1) : Nat) := by simp only [wrap64, dsum]; omega
      have hall : digAll m k = dig m k := by simp [digAll, hlt]
      rw [hall] at hy
      gi_wp2
      refine hR.mono ?_
      rintro e W3 (⟨rfl, hJ3, hk3⟩ | ⟨rfl, hJx3⟩)
      · gi_wp2
        go_roundw
        case rel => exact ⟨k + 1, by omega, by simp, congrArg _ (dsum_int m k), by rw [upto_succ]; exact hJ3, hk3.trans hnx⟩
        case measure => simp [intOf]; omega
      · gi_wp2
        refine bodyPost_ret (results_none rfl _ _ _) rfl ?_
        exact ⟨⟨_, rfl⟩, .inr ⟨_, by rw [← upto_succ]; exact upto_prefix _ (by omega), hJx3⟩⟩
    · obtain rfl : k = 64 := by omega
      have e64 : ((64 : Nat) : Int) = 64 := rfl
      rw [e64]
      gi_wp2
      gi_loopw [6] (fun i wq => ∃ k : Nat, 64 ≤ k ∧ k ≤ 67 ∧ i = .int .i64 k ∧ Jv (upto (dpair m) k) wq ∧ Kb Bs W wq)
        (fun i _ => 67 - (intOf i).toNat)
      case atStart => exact ⟨64, Nat.le_refl _, by omega, rfl, hJs, hnx⟩
      case round =>
        obtain ⟨k, hk1, hk2, rfl, hJq, hnq⟩ := hrel
        have hds := dsum_le m 64
        by_cases hlt : k < 67
        · have hyy := hY _ (dpair m k) wr hJq (by rw [upto_length]; omega)
          rw [dEncs_pair m k (by omega)] at hyy
          obtain ⟨fn, tmps, assign, body, hy, hR⟩ := hyy
          have hand := hchk m k (by omega) (by omega)
          gi_wp2
          refine hR.mono ?_
          rintro e W3 (⟨rfl, hJ3, hk3⟩ | ⟨rfl, hJx3⟩)
          · gi_wp2
            go_roundw
            case rel => exact ⟨k + 1, by omega, by omega, by simp, by rw [upto_succ]; exact hJ3, hk3.trans hnq⟩
            case measure => simp [intOf]; omega
          · gi_wp2
            refine bodyPost_ret (results_none rfl _ _ _) rfl ?_
            exact ⟨⟨_, rfl⟩, .inr ⟨_, by rw [← upto_succ]; exact upto_prefix _ (by omega), hJx3⟩⟩
        · obtain rfl : k = 67 := by omega
          gi_wp2
          go_end0
          exact ⟨⟨_, rfl⟩, .inl ⟨_, rfl, hJq⟩⟩

theorem digits_stops (F : Fence) (n : Nat) (h9 : F.fn 72) (hro : F.round = none) (hn : 1 ≤ n) (Bs : Nat) (m : List UInt8) (hm : m.length = 32) (w : World)
    (hc : Blk w Bs 27 (bcells m).toArray) :
    SeqStopsK F n Tryd.prog 72 #[.pointer (some ⟨Bs, 0, none⟩)] dEncs (Kb Bs) (fun ys => ys = upto (dpair m) 67) (fun pre => pre <+: upto (dpair m) 67) 67 w := fun l Jv Jx W hW _ _ hY h0 =>
  digits1_in F n h9 hro hn l Bs m hm Jv Jx hY W (hc.below hW hc.lt) h0
end Go.Proofs.YtapkhafgfbhkkaaDoor
