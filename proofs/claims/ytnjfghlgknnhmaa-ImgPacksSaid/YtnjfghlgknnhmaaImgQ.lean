/-
  Plain: what is packed is split as it was. Walk: img.Pack.
-/
import Derived.Test.YtnjfghlgknnhmaaImgP
namespace Go.Proofs.Ytnjfghlgknnhmaa
open Go.RowKit

def packOk (h : Hd) (pay : List UInt8) : Bool := nmOk h.name && decide (h.size = pay.length)
def packV (h : Hd) (sig pay : List UInt8) : List UInt8 := if packOk h pay then hdBytes h ++ (sig ++ pay) else []
def packErr (h : Hd) (pay : List UInt8) : Int := if packOk h pay then 0 else 150
theorem pack_good (h : Hd) (ok : h.ok) (hk : nmOk h.name = true) (sig pay : List UInt8) (hs : h.size = pay.length) (o : Nat) :
    splGood (hdBytes h ++ (sig ++ pay)) o = (isKind o && decide (sig.length = sigSize o)) := by
  have hl := hdBytes_length h ok.dig (nmOk_le hk)
  have ht : (hdBytes h ++ (sig ++ pay)).take 64 = hdBytes h := List.take_left' hl
  have hg := hdGood_back h ok hk
  have hv : hdVal (hdBytes h) = h := by rw [hdVal, hg, if_pos rfl, hdRaw_back h ok hk]
  rw [splGood, ht, hg, hv]
  cases isKind o with
  | false => rfl
  | true =>
    have e : (hdBytes h ++ (sig ++ pay)).length = 64 + (sig.length + pay.length) := by rw [List.length_append, List.length_append, hl]
    rw [e, hs]
    simp only [Bool.true_and, Bool.and_true]
    by_cases h1 : sig.length = sigSize o
    · rw [h1]
      have e1 : 64 + sigSize o ≤ 64 + (sigSize o + pay.length) := by omega
      have e2 : 64 + (sigSize o + pay.length) - 64 - sigSize o = pay.length := by omega
      rw [decide_eq_true e1, decide_eq_true e2, decide_eq_true rfl]; rfl
    · by_cases h2 : 64 + sigSize o ≤ 64 + (sig.length + pay.length)
      · have e2 : ¬ 64 + (sig.length + pay.length) - 64 - sigSize o = pay.length := by omega
        rw [decide_eq_true h2, decide_eq_false e2, decide_eq_false h1]; rfl
      · simp [h1, h2]
theorem pack_parts (h : Hd) (ok : h.ok) (hk : nmOk h.name = true) (sig pay : List UInt8) (o : Nat) (hg : splGood (hdBytes h ++ (sig ++ pay)) o = true) (hs : sig.length = sigSize o) :
    splHd (hdBytes h ++ (sig ++ pay)) o = h ∧ splB (hdBytes h ++ (sig ++ pay)) o = sig ∧ splC (hdBytes h ++ (sig ++ pay)) o = pay ∧ splErr (hdBytes h ++ (sig ++ pay)) o = 0 := by
  have hl := hdBytes_length h ok.dig (nmOk_le hk)
  have ht : (hdBytes h ++ (sig ++ pay)).take 64 = hdBytes h := List.take_left' hl
  have hd : (hdBytes h ++ (sig ++ pay)).drop 64 = sig ++ pay := List.drop_left' hl
  have hv : hdVal (hdBytes h) = h := by rw [hdVal, hdGood_back h ok hk, if_pos rfl, hdRaw_back h ok hk]
  refine ⟨?_, ?_, ?_, ?_⟩
  · rw [splHd, if_pos hg, ht, hv]
  · rw [splB, if_pos hg, hd]; exact List.take_left' hs
  · rw [splC, if_pos hg, ← List.drop_drop, hd]; exact List.drop_left' hs
  · rw [splErr, if_pos hg]

set_option maxRecDepth 100000 in
set_option maxHeartbeats 2000000 in
theorem mPack_any (h : Hd) (ok : h.ok) (A : Option Addr) (n c : Nat) (sig : List UInt8) (A2 : Option Addr) (n2 c2 : Nat) (pay : List UInt8) (hn : n ≤ 3000) (hn2 : n2 ≤ 2000) (w : World)
    (r1 : Rd w w.heap.size 1 A n (bcells sig)) (r2 : Rd w w.heap.size 1 A2 n2 (bcells pay)) :
    Calls Try.prog 35 #[.agg (hdCells h).toArray, .slice A n c, .slice A2 n2 c2] w (BytesErr w (packV h sig pay) (packErr h pay)) := by
  have hdL := Lib.hid ok.dig
  have hl2 : n2 = pay.length := by have := r2.len; rw [bcells_length] at this; omega
  have hl1 : n = sig.length := by have := r1.len; rw [bcells_length] at this; omega
  have h35 : Hid ((hdCells h).toArray.size = 35) := Lib.hid (by rw [List.size_toArray, hdCells_length h ok.dig])
  have hvs : h.size < 4294967296 := ok.size
  have hb := Blk.new w 55 (hdCells h).toArray
  have B1 : Below w.heap.size w (w.alloc (.cells (hdCells h).toArray 55)) := (Below.refl _ _).alloc (Nat.le_refl _) _
  have HL1 := Lib.hid hl1
  have HL2 := Lib.hid hl2
  clear hl1 hl2
  have hw1 : IntKind.u64.wrap (n2 : Int) = (n2 : Int) := IntWalk.u64_in _ (by omega)
  have hw2 : IntKind.u64.wrap (h.size : Int) = (h.size : Int) := IntWalk.u64_in _ (by omega)
  go_enter Try.func35, Try.ntmps35
  go_wp2_with ((with_reducible refine at_load 55 ?_); refine wpList_loadAll _ rfl 55 _ rfl w.heap.size 55 (hdCells h).toArray hb _ rfl Try.underlying55 rfl (by rw [h35.out]; exact inf_hd) ?_)
  generalize w.alloc (.cells (hdCells h).toArray 55) = W1 at *
  refine (mPutH_any h ok W1).mono ?_
  rintro e W2 ⟨A3, c3, rfl, h3, r3, hB2⟩
  have hb2 := hb.below hB2 hb.lt
  have B2 := B1.trans (hB2.mono B1.size)
  have c1 : W2.cell? ⟨w.heap.size, 1, none⟩ = some (.int .u32 (h.size : Int)) := (hb2.cell 1).trans rfl
  clear hb B1 hB2
  cases hk : nmOk h.name with
  | false =>
    have hx : putHdErr h = 150 := by rw [putHdErr, if_neg (by simp [hk])]
    have hp : Hid (packOk h pay = false) := Lib.hid (by simp [packOk, hk])
    rw [hx]
    clear hx hk
    go_wp2
    go_ret2
    rw [packV, packErr, hp.out]
    exact ⟨none, 0, rfl, Nat.le_refl _, Rd.nil _ _ _ _, B2⟩
  | true =>
    have hx : putHdErr h = 0 := by rw [putHdErr, if_pos hk]
    have hv : putHd h = hdBytes h := by rw [putHd, if_pos hk]
    have hvl := hdBytes_length h ok.dig (nmOk_le hk)
    rw [hx, hv, hvl]
    rw [hv, hvl] at h3 r3
    have HVL := Lib.hid hvl
    by_cases hsz : h.size = n2
    · have hp : Hid (packOk h pay = true) := Lib.hid (by have := HL2.out; simp [packOk, hk, ← this, hsz])
      have heq : (((h.size : Nat) : Int) != (n2 : Int)) = false := by simp; omega
      clear hx hv hvl hk
      go_wp2_with fail
      have hbk := Blk.new W2 27 #[.slice A3 64 c3, .slice A n c, .slice A2 n2 c2]
      have hBk : Below W2.heap.size W2 (W2.alloc (.cells #[.slice A3 64 c3, .slice A n c, .slice A2 n2 c2] 27)) := (Below.refl _ _).alloc (Nat.le_refl _) _
      have g1 := cat_any (some ⟨W2.heap.size, 0, none⟩) 3 3 [⟨A3, 64, c3, hdBytes h⟩, ⟨A, n, c, sig⟩, ⟨A2, n2, c2, pay⟩] _ (hbk.rd rfl)
        (by
          intro x hx
          simp only [List.mem_cons, List.not_mem_nil, or_false] at hx
          rcases hx with rfl | rfl | rfl
          · exact (r3.below hBk).more hBk.size
          · exact ((r1.below B2).below (hBk.mono B2.size)).more (Nat.le_trans B2.size hBk.size)
          · exact ((r2.below B2).below (hBk.mono B2.size)).more (Nat.le_trans B2.size hBk.size)) (by simp [Bs.tot]; omega) (by omega)
      have e1 : Bs.tot [⟨A3, 64, c3, hdBytes h⟩, ⟨A, n, c, sig⟩, ⟨A2, n2, c2, pay⟩] = 64 + (n + n2) := by simp [Bs.tot]
      have e2 : Bs.all [⟨A3, 64, c3, hdBytes h⟩, ⟨A, n, c, sig⟩, ⟨A2, n2, c2, pay⟩] = packV h sig pay := by rw [packV, if_pos hp.out]; simp [Bs.all]
      rw [e1, e2] at g1
      refine g1.mono ?_
      rintro e W4 ⟨A4, c4, rfl, hO, hB4⟩
      have B4 := (B2.trans (hBk.mono B2.size)).trans (hB4.mono (Nat.le_trans B2.size hBk.size))
      clear g1 e1 e2 hbk hBk hB4 r3
      go_wp2
      go_ret2
      have e3 : (packV h sig pay).length = 64 + (n + n2) := by rw [packV, if_pos hp.out, List.length_append, List.length_append, HVL.out, HL1.out, HL2.out]
      rw [packErr, if_pos hp.out]
      refine ⟨A4, c4, ?_, ?_, ?_, B4⟩ <;> rw [e3]
      · rfl
      · exact Flow.own_le hO
      · exact Rd.of_own hO
    · have hp : Hid (packOk h pay = false) := Lib.hid (by have := HL2.out; simp [packOk, hk, ← this, hsz])
      have hne : (((h.size : Nat) : Int) != (n2 : Int)) = true := by simp; omega
      clear hx hv hvl hk
      go_wp2
      go_ret2
      rw [packV, packErr, hp.out]
      exact ⟨none, 0, rfl, Nat.le_refl _, Rd.nil _ _ _ _, B2⟩
end Go.Proofs.Ytnjfghlgknnhmaa
