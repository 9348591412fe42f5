/-
  Walks: SigOf of any bytes, both; portreeveref04.SameNodes and SameSig.
-/
import Derived.Test.YtnjfghlgknnhmaaSigC
namespace Go.Proofs.Ytnjfghlgknnhmaa
open Go.RowKit

def sigOk (l : List UInt8) (o : Nat) : Bool := isKind o && l.length == 36 + 32 * (67 + hgt o) && decide (rdNum l 0 4 false < 2 ^ hgt o)
def sigVal (l : List UInt8) (o : Nat) : Sg := if sigOk l o then ⟨rdNum l 0 4 false, (l.drop 4).take 32, nodesAt l 0 67, nodesAt l 67 (hgt o)⟩ else ⟨0, zeroNode0, [], []⟩
def sigErr (l : List UInt8) (o : Nat) : Int := if isKind o = false then 80 else if sigOk l o then 0 else 81
/-- a signature in memory of the call's own -/
def SigRet (w : World) (g : Sg) (x : Int) (e : Ending) (w' : World) : Prop := ∃ A1 c1 A2 c2, e = .returned (.tuple #[.agg (sigCells g.i g.r (.slice A1 g.ots.length c1) (.slice A2 g.auth.length c2)).toArray, .int .i64 x]) ∧
  g.ots.length ≤ c1 ∧ g.auth.length ≤ c2 ∧ Rd w' w'.heap.size 32 A1 g.ots.length (ncells g.ots) ∧ Rd w' w'.heap.size 32 A2 g.auth.length (ncells g.auth) ∧ Below w.heap.size w w'

section
variable (A : Option Addr) (n c0 : Nat) (l : List UInt8) (o : Nat) (w : World)
set_option maxRecDepth 100000 in
set_option maxHeartbeats 2000000 in
theorem mSigOf_kind (hk : isKind o = false) :
    Calls Try.prog 19 #[.slice A n c0, .int .u32 o] w fun e w' => e = .returned (.tuple #[.agg zsig, .int .i64 80]) ∧ Below w.heap.size w w' := by
  have hz35 : Hid (zsig.size = 35) := Lib.hid (by kernel_rfl)
  go_enter Try.func19, Try.ntmps19
  go_wp2_with fail
  change Calls _ _ _ (w.alloc (.cells zsig 32)) _
  have B0 : Below w.heap.size w (w.alloc (.cells zsig 32)) := (Below.refl _ _).alloc (Nat.le_refl _) _
  have hb0 := Blk.new w 32 zsig
  generalize w.alloc (.cells zsig 32) = W0 at *
  refine (mHeight_any o W0).mono ?_
  rintro e w' ⟨rfl, rfl⟩
  rw [hk]
  go_wp2_with ((with_reducible refine at_store 32 ?_); refine wpList_storeAll W0 rfl 32 _ _ rfl w.heap.size 32 _ zsig hb0 rfl rfl rfl (by rw [hz35.out]; exact inf35) (by decide) ?_; intro W5 hb5 hg5 hs5)
  refine bodyPost_ret (results_cell_tmp rfl _ _ w.heap.size _ _ _ _ rfl hb5 Try.underlying32 rfl (by rw [hz35.out]; exact inf35)) rfl ?_
  exact ⟨rfl, grown_below B0 hg5 B0.size (Nat.le_refl _)⟩
set_option maxRecDepth 100000 in
set_option maxHeartbeats 2000000 in
theorem rSigOf_kind (hk : isKind o = false) :
    Calls Try.prog 20 #[.slice A n c0, .int .u32 o] w fun e w' => e = .returned (.tuple #[.agg zsig, .int .i64 80]) ∧ Below w.heap.size w w' := by
  have hz35 : Hid (zsig.size = 35) := Lib.hid (by kernel_rfl)
  go_enter Try.func20, Try.ntmps20
  go_wp2_with fail
  change Calls _ _ _ (w.alloc (.cells zsig 32)) _
  have B0 : Below w.heap.size w (w.alloc (.cells zsig 32)) := (Below.refl _ _).alloc (Nat.le_refl _) _
  have hb0 := Blk.new w 32 zsig
  generalize w.alloc (.cells zsig 32) = W0 at *
  refine (rHeight_any o W0).mono ?_
  rintro e w' ⟨rfl, rfl⟩
  rw [hk]
  go_wp2_with ((with_reducible refine at_store 32 ?_); refine wpList_storeAll W0 rfl 32 _ _ rfl w.heap.size 32 _ zsig hb0 rfl rfl rfl (by rw [hz35.out]; exact inf35) (by decide) ?_; intro W5 hb5 hg5 hs5)
  refine bodyPost_ret (results_cell_tmp rfl _ _ w.heap.size _ _ _ _ rfl hb5 Try.underlying32 rfl (by rw [hz35.out]; exact inf35)) rfl ?_
  exact ⟨rfl, grown_below B0 hg5 B0.size (Nat.le_refl _)⟩
set_option maxRecDepth 100000 in
set_option maxHeartbeats 2000000 in
theorem mSigOf_len (hk : isKind o = true) (hn : ¬ n = 36 + 32 * (67 + hgt o)) :
    Calls Try.prog 19 #[.slice A n c0, .int .u32 o] w fun e w' => e = .returned (.tuple #[.agg zsig, .int .i64 81]) ∧ Below w.heap.size w w' := by
  have hz35 : Hid (zsig.size = 35) := Lib.hid (by kernel_rfl)
  have hz : ¬ (n : Int) = (sigSize o : Nat) := by simp [sigSize, hk]; omega
  go_enter Try.func19, Try.ntmps19
  go_wp2_with fail
  change Calls _ _ _ (w.alloc (.cells zsig 32)) _
  have B0 : Below w.heap.size w (w.alloc (.cells zsig 32)) := (Below.refl _ _).alloc (Nat.le_refl _) _
  have hb0 := Blk.new w 32 zsig
  generalize w.alloc (.cells zsig 32) = W0 at *
  refine (mHeight_any o W0).mono ?_
  rintro e w' ⟨rfl, rfl⟩
  rw [hk]
  go_wp2_with fail
  refine (mSize_any o W0).mono ?_
  rintro e w' ⟨rfl, rfl⟩
  rw [hk]
  go_wp2_with ((with_reducible refine at_store 32 ?_); refine wpList_storeAll W0 rfl 32 _ _ rfl w.heap.size 32 _ zsig hb0 rfl rfl rfl (by rw [hz35.out]; exact inf35) (by decide) ?_; intro W5 hb5 hg5 hs5)
  refine bodyPost_ret (results_cell_tmp rfl _ _ w.heap.size _ _ _ _ rfl hb5 Try.underlying32 rfl (by rw [hz35.out]; exact inf35)) rfl ?_
  exact ⟨rfl, grown_below B0 hg5 B0.size (Nat.le_refl _)⟩
set_option maxRecDepth 100000 in
set_option maxHeartbeats 2000000 in
theorem rSigOf_len (h : Rd w w.heap.size 1 A n (bcells l)) (hn0 : n ≤ 1000000) (hk : isKind o = true) (hn : ¬ n = 36 + 32 * (67 + hgt o)) :
    Calls Try.prog 20 #[.slice A n c0, .int .u32 o] w fun e w' => e = .returned (.tuple #[.agg zsig, .int .i64 81]) ∧ Below w.heap.size w w' := by
  have hz35 : Hid (zsig.size = 35) := Lib.hid (by kernel_rfl)
  have hh : hgt o ≤ 20 := by unfold hgt; split <;> (try split) <;> (try split) <;> omega
  have hz : ¬ (n : Int) = 36 + 32 * (67 + (hgt o : Nat)) := by omega
  go_enter Try.func20, Try.ntmps20
  go_wp2_with fail
  change Calls _ _ _ (w.alloc (.cells zsig 32)) _
  have B0 : Below w.heap.size w (w.alloc (.cells zsig 32)) := (Below.refl _ _).alloc (Nat.le_refl _) _
  have hb0 := Blk.new w 32 zsig
  generalize w.alloc (.cells zsig 32) = W0 at *
  refine (rHeight_any o W0).mono ?_
  rintro e w' ⟨rfl, rfl⟩
  rw [hk]
  go_wp2_with fail
  refine (number_any A n c0 0 false l W0 4 ((h.below B0).more B0.size) (by omega) (by omega) (by omega)).mono ?_
  rintro e w' ⟨rfl, rfl⟩
  go_wp2_with ((with_reducible refine at_store 32 ?_); refine wpList_storeAll W0 rfl 32 _ _ rfl w.heap.size 32 _ zsig hb0 rfl rfl rfl (by rw [hz35.out]; exact inf35) (by decide) ?_; intro W5 hb5 hg5 hs5)
  refine bodyPost_ret (results_cell_tmp rfl _ _ w.heap.size _ _ _ _ rfl hb5 Try.underlying32 rfl (by rw [hz35.out]; exact inf35)) rfl ?_
  exact ⟨rfl, grown_below B0 hg5 B0.size (Nat.le_refl _)⟩
end

theorem sigRet_zero {w w' : World} {x : Int} {e : Ending} (he : e = .returned (.tuple #[.agg zsig, .int .i64 x])) (hB : Below w.heap.size w w') : SigRet w ⟨0, zeroNode0, [], []⟩ x e w' :=
  ⟨none, 0, none, 0, he, Nat.le_refl _, Nat.le_refl _, Rd.nil _ _ _ _, Rd.nil _ _ _ _, hB⟩
theorem sigRet_end {w w' : World} {l : List UInt8} {o : Nat} {e : Ending} (hk : isKind o = true) (hl : l.length = 36 + 32 * (67 + hgt o)) (h : SigEnd w l o (rdNum l 0 4 false) ((l.drop 4).take 32) e w') : SigRet w (sigVal l o) (sigErr l o) e w' := by
  unfold SigEnd at h
  by_cases hb : rdNum l 0 4 false < 2 ^ hgt o
  · rw [if_pos hb] at h
    obtain ⟨A1, c1, A2, c2, he, h1, h2, r1, r2, hB⟩ := h
    have hok : sigOk l o = true := by simp [sigOk, hk, hl, hb]
    rw [sigVal, sigErr, if_pos hok, if_pos hok, hk]
    have e1 : (nodesAt l 0 67).length = 67 := by simp [nodesAt]
    have e2 : (nodesAt l 67 (hgt o)).length = hgt o := by simp [nodesAt]
    refine ⟨A1, c1, A2, c2, ?_, ?_, ?_, ?_, ?_, hB⟩ <;> simp only [e1, e2]
    · exact he
    all_goals assumption
  · rw [if_neg hb] at h
    have hok : sigOk l o = false := by simp [sigOk, hk, hl, hb]
    rw [sigVal, sigErr, hok, hk]
    exact sigRet_zero h.1 h.2
theorem sigRet_no {w w' : World} {l : List UInt8} {o : Nat} {e : Ending} (hk : isKind o = false) (he : e = .returned (.tuple #[.agg zsig, .int .i64 80])) (hB : Below w.heap.size w w') : SigRet w (sigVal l o) (sigErr l o) e w' := by
  have hok : sigOk l o = false := by simp [sigOk, hk]
  rw [sigVal, sigErr, hok, hk]
  exact sigRet_zero he hB
theorem sigRet_len {w w' : World} {l : List UInt8} {o : Nat} {e : Ending} (hk : isKind o = true) (hl : ¬ l.length = 36 + 32 * (67 + hgt o)) (he : e = .returned (.tuple #[.agg zsig, .int .i64 81])) (hB : Below w.heap.size w w') : SigRet w (sigVal l o) (sigErr l o) e w' := by
  have hok : sigOk l o = false := by simp [sigOk, hl]
  rw [sigVal, sigErr, hok, hk]
  exact sigRet_zero he hB
theorem mSigOf_any (A : Option Addr) (n c0 : Nat) (l : List UInt8) (o : Nat) (w : World) (h : Rd w w.heap.size 1 A n (bcells l)) (hc : n ≤ c0) : Calls Try.prog 19 #[.slice A n c0, .int .u32 o] w (SigRet w (sigVal l o) (sigErr l o)) := by
  obtain rfl : n = l.length := by have := h.len; rw [bcells_length] at this; omega
  cases hk : isKind o with
  | false => exact (mSigOf_kind A _ c0 o w hk).mono fun e w' ⟨he, hB⟩ => sigRet_no hk he hB
  | true =>
    by_cases hl : l.length = 36 + 32 * (67 + hgt o)
    · exact (mSigOf_in A c0 l o w h hc hk hl _ rfl _ rfl).mono fun e w' hE => sigRet_end hk hl hE
    · exact (mSigOf_len A _ c0 o w hk hl).mono fun e w' ⟨he, hB⟩ => sigRet_len hk hl he hB
theorem rSigOf_any (A : Option Addr) (n c0 : Nat) (l : List UInt8) (o : Nat) (w : World) (h : Rd w w.heap.size 1 A n (bcells l)) (hn : n ≤ 1000000) (hc : n ≤ c0) : Calls Try.prog 20 #[.slice A n c0, .int .u32 o] w (SigRet w (sigVal l o) (sigErr l o)) := by
  obtain rfl : n = l.length := by have := h.len; rw [bcells_length] at this; omega
  cases hk : isKind o with
  | false => exact (rSigOf_kind A _ c0 o w hk).mono fun e w' ⟨he, hB⟩ => sigRet_no hk he hB
  | true =>
    by_cases hl : l.length = 36 + 32 * (67 + hgt o)
    · exact (rSigOf_in A c0 l o w h hc hk hl _ rfl _ rfl).mono fun e w' hE => sigRet_end hk hl hE
    · exact (rSigOf_len A _ c0 l o w h hn hk hl).mono fun e w' ⟨he, hB⟩ => sigRet_len hk hl he hB
end Go.Proofs.Ytnjfghlgknnhmaa
