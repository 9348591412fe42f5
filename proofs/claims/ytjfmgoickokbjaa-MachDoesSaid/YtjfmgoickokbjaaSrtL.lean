/-
  Walks: maps.Keys of the pages, and its iterator.
-/
import Derived.Test.YtjfmgoickokbjaaSrtK
import Derived.Test.YtjfmgoickokbjaaBQ
import Derived.RangeFuncNested
import Derived.RangeFuncBound
import Derived.RangeFuncCalls
import Derived.RangeFuncLeaves
import Derived.RangeFuncFrom
import Derived.RangeFuncSeq
import Derived.RangeFuncMany
import Derived.Shelf.Abstract
import Derived.Shelf.RegionOpen
import Derived.Shelf.AbstractIn
import Derived.Sort.MapsRangeIn
import Derived.WalkKit
import Derived.OwnWalkIn
import Derived.TacticsInMore
import Derived.LoopNIn
import Derived.LoopIn
namespace Go.Proofs.Ytjfmgoickokbjaa
open Go.RowKit Go.Shelf
open Go.Maps (Keyed)

attribute [local go_sem] Oper.semAt_some

abbrev MT := 81
def litU (k : Nat) : Lit := .int .u64 (k : Int)
/-- a key -/
abbrev Ku := { x : Nat // x < 18446744073709551616 }
abbrev kEncs (x : Ku) : Array Value := #[.int .u64 ((x.1 : Nat) : Int)]
theorem keyU_inv {key : Value} {kl : Lit} (h : keyOf Try.prog 22 key = some kl) : ∃ x : Ku, key = .int .u64 ((x.1 : Nat) : Int) ∧ kl = litU x.1 := by
  obtain ⟨x, rfl, rfl, hw⟩ := Maps.keyOf_int_inv Try.underlying22 h
  simp [Lit.wf, IntKind.min, IntKind.max, IntKind.bits, IntKind.signed] at hw
  have e : ((x.toNat : Nat) : Int) = x := by omega
  refine ⟨⟨x.toNat, by omega⟩, ?_, ?_⟩
  · show Value.int .u64 x = Value.int .u64 ((x.toNat : Nat) : Int)
    rw [e]
  · show Lit.int .u64 x = Lit.int .u64 ((x.toNat : Nat) : Int)
    rw [e]
theorem sameKey_litU (x y : Nat) : (litU x).sameKey (litU y) = decide (x = y) := by
  by_cases h : x = y
  · subst h; simp [litU, Lit.sameKey]
  · rw [Maps.sameKey_ne (fun e => h (by unfold litU at e; injection e with _ e; omega))]; simp [h]
/-- the keys that have come -/
structure GotU (D0 : DataW Unit) (left : Lit → Bool) (ss : List Ku) : Prop where
  nodup : ss.Nodup
  all : ∀ k : Ku, Maps.has D0 (litU k.1) = true → left (litU k.1) = true ∨ k ∈ ss
  gone : ∀ k ∈ ss, left (litU k.1) = false
theorem GotU.start (D0 : DataW Unit) : GotU D0 (Maps.has D0) [] := ⟨List.nodup_nil, fun k h => .inl h, fun k h => by cases h⟩
theorem GotU.step {D0 : DataW Unit} {left : Lit → Bool} {ss : List Ku} (h : GotU D0 left ss) {x : Ku} (hl : left (litU x.1) = true) : GotU D0 (fun z => left z && !z.sameKey (litU x.1)) (ss ++ [x]) := by
  have hx : x ∉ ss := fun hm => by rw [h.gone x hm] at hl; cases hl
  refine ⟨List.nodup_append.2 ⟨h.nodup, by simp, fun a ha b hb => by rw [List.mem_singleton] at hb; subst hb; exact fun e => hx (e ▸ ha)⟩, fun k hk => ?_, fun k hk => ?_⟩
  · by_cases e : k = x
    · exact .inr (by simp [e])
    · rcases h.all k hk with h1 | h1
      · refine .inl ?_
        have : ¬ k.1 = x.1 := fun e2 => e (Subtype.ext e2)
        show (left (litU k.1) && !(litU k.1).sameKey (litU x.1)) = true
        rw [sameKey_litU, h1]; simp [this]
      · exact .inr (by simp [h1])
  · show (left (litU k.1) && !(litU k.1).sameKey (litU x.1)) = false
    rcases List.mem_append.1 hk with h1 | h1
    · rw [h.gone k h1]; rfl
    · rw [List.mem_singleton.1 h1, sameKey_litU]; simp
/-- all keys, each once -/
def AllU (D0 : DataW Unit) (ss : List Ku) : Prop := ss.Nodup ∧ (∀ k : Ku, Maps.has D0 (litU k.1) = true → k ∈ ss) ∧ ss.length ≤ 1000000

set_option maxRecDepth 100000 in
set_option maxHeartbeats 2000000 in
theorem keysU1_in (n l Bm b nn : Nat) (hn : 1 ≤ n) (D0 : DataW Unit) (J Jx : List Ku → World → Prop) (W : World) (hJ : AbidesFrom W.heap.size J)
    (hY : ∀ pre x W, J pre W → pre.length < 1000000 → YieldAt Fence.wide (n - 1) Try.prog l (kEncs x) W fun e W' => (e = .returned (.bool true) ∧ J (pre ++ [x]) W' ∧ KeepsWalks W W') ∨ (e = .returned (.bool false) ∧ Jx (pre ++ [x]) W'))
    (hm : Blk W Bm MT #[.map (some b)]) (hown : W.ownsMap Try.prog 22 pgE b nn D0) (hnn : nn ≤ 1000000) (h0 : J [] W) :
    CallsIn Fence.wide n Try.prog 64 #[.func (.yield l) #[] #[], .pointer (some ⟨Bm, 0, none⟩)] W fun e W' => (∃ v, e = .returned v) ∧ ((∃ ss, AllU D0 ss ∧ J ss W') ∨ (∃ pre, True ∧ Jx pre W')) := by
  have hmc : W.cell? ⟨Bm, 0, none⟩ = some (.map (some b)) := (hm.cell 0).trans rfl
  refine callsIn_of_wp Try.func64 rfl trivial ?_ rfl
  simp only [Try.ntmps64, List.size_toArray, List.length_cons, List.length_nil, Nat.reduceAdd, Nat.reduceSub, Array.replicate_succ, Array.replicate_zero, List.push_toArray, List.append_toArray, List.nil_append, List.cons_append]
  gi_wp2_with (first
    | (gi_at_range; refine wpListIn_range_own _ rfl _ MT rfl 22 26 keyU Try.underlying81 _ b nn _ rfl hown ?_; intro w0 hrg0 hg0 hs0)
    | gi_in)
  go_frame
  gi_loopw [3] (fun _ wr => ∃ (left : Lit → Bool) (cnt : Nat) (ss : List Ku), wr.ranges Try.prog 22 pgE b W.heap.size nn D0 left cnt ∧ GotU D0 left ss ∧ ss.length + cnt ≤ nn ∧ J ss wr)
    (fun _ wr => wr.rangeLeft b W.heap.size)
  case atStart => exact ⟨_, _, [], hrg0, GotU.start D0, by simpa using hown.size_le, hJ [] W w0 none h0 hg0 (fun r e => by cases e)⟩
  case round =>
    obtain ⟨left, cnt, ss, hrg, hC, hlen, hJs⟩ := hrel
    gi_wp2_with (first
      | (gi_at_next; refine wpListIn_next_ranges _ rfl _ rfl 22 keyU pgE (fun x : Ku => Value.int .u64 ((x.1 : Nat) : Int)) id (fun key kl hk => by obtain ⟨x, hx, _⟩ := keyU_inv hk; exact ⟨x, hx⟩) (fun v _ _ => ⟨v, rfl⟩) b W.heap.size nn _ _ _ rfl hrg ?_ ?_)
      | gi_in)
    · intro hc0 hl0
      gi_wp2
      go_end0
      exact ⟨⟨_, rfl⟩, .inl ⟨ss, ⟨hC.nodup, fun k hk => (hC.all k hk).resolve_left (by rw [hl0]; simp), by omega⟩, hJs⟩⟩
    · intro xn hxn c kl yd yp w2 cnt2 hkey hlk hv hat hrg2 hlt hg2 hs2 hen
      obtain ⟨x, hxx⟩ : ∃ x : Ku, x = ⟨xn, hxn⟩ := ⟨_, rfl⟩
      obtain ⟨x', ex, rfl⟩ := keyU_inv hkey
      have exx : x = x' := by
        injection ex with _ ex
        rw [hxx]
        exact Subtype.ext (by show xn = x'.1; omega)
      subst exx
      have hxv : x.1 = xn := by rw [hxx]
      have hJ2 : J ss w2 := hJ ss wr w2 (some W.heap.size) hJs hg2 (fun r e => by cases e; exact ⟨Nat.le_refl _, hrg.iter_walk⟩)
      have hyy := hY ss x w2 hJ2 (by omega)
      have hlen2 : (ss ++ [x]).length + cnt2 ≤ nn := by rw [List.length_append]; simp only [List.length_cons, List.length_nil]; omega
      have henc : kEncs x = #[.int .u64 ((xn : Nat) : Int)] := by rw [← hxv]
      rw [henc] at hyy
      obtain ⟨fn, tmps, assign, body, hy, hR⟩ := hyy
      have HL := Lib.hid hlk
      clear hs2 hlk hat hv hkey henc hxv ex hxx hxn
      gi_wp2
      refine hR.mono ?_
      rintro e W3 (⟨rfl, hJ3, hk3⟩ | ⟨rfl, hJx3⟩)
      · gi_wp2
        have hrg3 := hrg2.of_walks hk3
        go_roundw
        case rel => exact ⟨_, cnt2, ss ++ [x], hrg3, hC.step HL.out, hlen2, hJ3⟩
        case measure => rw [hrg3.left_eq, hrg.left_eq]; exact hlt
      · gi_wp2
        refine bodyPost_ret (results_none rfl _ _ _) rfl ?_
        exact ⟨⟨_, rfl⟩, .inr ⟨_, trivial, hJx3⟩⟩
theorem keysU_stops (Bm b nn : Nat) (D0 : DataW Unit) (w : World) (hm : Blk w Bm MT #[.map (some b)]) (hown : w.ownsMap Try.prog 22 pgE b nn D0) (hnn : nn ≤ 1000000) :
    SeqStopsK Fence.wide 5 Try.prog 64 #[.pointer (some ⟨Bm, 0, none⟩)] kEncs KeepsWalks (AllU D0) (fun _ => True) 1000000 w := fun l Jv Jx W hW hA _ hY h0 =>
  keysU1_in 5 l Bm b nn (by omega) D0 Jv Jx W hA hY (hm.below hW hm.lt) (by
    obtain ⟨es, clock, h1, h2⟩ := hown
    exact ⟨es, clock, (hW.block b (Array.getElem?_eq_some_iff.1 h1).1).trans h1, h2⟩) hnn h0

set_option maxRecDepth 100000 in
set_option maxHeartbeats 400000 in
theorem keysU_any (b : Nat) (w : World) :
    Calls Try.prog 52 #[.map (some b)] w fun e w' => e = .returned (.func (.func 64) #[] #[.pointer (some ⟨w.heap.size, 0, none⟩)]) ∧ w' = w.alloc (.cells #[.map (some b)] MT) := by
  go_enter Try.func52, Try.ntmps52
  go_wp2
  go_ret
  exact ⟨rfl, rfl⟩
end Go.Proofs.Ytjfmgoickokbjaa
