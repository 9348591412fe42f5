/-
  Both PutSig of any signature; what is put is read; walk of the statement XmssPuts.
-/
import Derived.Test.YtnjfghlgknnhmaaSigH
import Derived.Test.YtnjfghlgknnhmaaSigF
import Derived.Test.YtnjfghlgknnhmaaNum2
import Derived.Test.YtnjfghlgknnhmaaXmssH
namespace Go.Proofs.Ytnjfghlgknnhmaa
open Go.RowKit

def putSigVal (g : Sg) (o : Nat) : List UInt8 := if putOk g o then sigBytes g else []
def putSigErr (g : Sg) (o : Nat) : Int := if isKind o = false then 80 else if putOk g o then 0 else 81
theorem bytesErr_none {w w' : World} {x : Int} {e : Ending} (he : e = .returned (.tuple #[.slice none 0 0, .int .i64 x])) (hB : Below w.heap.size w w') : BytesErr w [] x e w' := ⟨none, 0, he, Nat.le_refl _, Rd.nil _ _ _ _, hB⟩
section
variable (g : Sg) (ok : g.ok) (o : Nat) (A1 A2 : Option Addr) (d1 d2 : Nat) (w : World) (r1 : Rd w w.heap.size 32 A1 g.ots.length (ncells g.ots)) (r2 : Rd w w.heap.size 32 A2 g.auth.length (ncells g.auth))
include ok r1 r2
theorem mPutSig_any : Calls Try.prog 26 #[.agg (sigCells g.i g.r (.slice A1 g.ots.length d1) (.slice A2 g.auth.length d2)).toArray, .int .u32 o] w (BytesErr w (putSigVal g o) (putSigErr g o)) := by
  cases hk : isKind o with
  | false =>
    rw [putSigVal, putSigErr, putOk, hk]
    exact (mPutSig_kind g o hk A1 A2 d1 d2 w).mono fun e w' ⟨he, hB⟩ => bytesErr_none he hB
  | true =>
    cases hm : may g.ots.length g.auth.length g.i (hgt o) with
    | false =>
      rw [putSigVal, putSigErr, putOk, hk, hm]
      exact (mPutSig_no g ok o hk hm A1 A2 d1 d2 w).mono fun e w' ⟨he, hB⟩ => bytesErr_none he hB
    | true =>
      rw [putSigVal, putSigErr, putOk, hk, hm]
      exact mPutSig_yes g ok o hk hm A1 A2 d1 d2 w r1 r2
theorem rPutSig_any : Calls Try.prog 27 #[.agg (sigCells g.i g.r (.slice A1 g.ots.length d1) (.slice A2 g.auth.length d2)).toArray, .int .u32 o] w (BytesErr w (putSigVal g o) (putSigErr g o)) := by
  cases hk : isKind o with
  | false =>
    rw [putSigVal, putSigErr, putOk, hk]
    exact (rPutSig_kind g o hk A1 A2 d1 d2 w).mono fun e w' ⟨he, hB⟩ => bytesErr_none he hB
  | true =>
    cases hm : may g.ots.length g.auth.length g.i (hgt o) with
    | false =>
      rw [putSigVal, putSigErr, putOk, hk, hm]
      exact (rPutSig_no g ok o hk hm A1 A2 d1 d2 w).mono fun e w' ⟨he, hB⟩ => bytesErr_none he hB
    | true =>
      rw [putSigVal, putSigErr, putOk, hk, hm]
      exact rPutSig_yes g ok o hk hm A1 A2 d1 d2 w r1 r2
end

/-! what is put is read -/
theorem rdNum_front (a b : List UInt8) (n : Nat) (low : Bool) (h : n ≤ a.length) : rdNum (a ++ b) 0 n low = rdNum a 0 n low := by
  have h1 : (0 : Int) ≤ 0 ∧ (0 : Int) + n ≤ (a ++ b).length := by rw [List.length_append]; omega
  have h2 : (0 : Int) ≤ 0 ∧ (0 : Int) + n ≤ a.length := by omega
  rw [rdNum, rdNum, if_pos h1, if_pos h2]
  unfold readNum
  apply numOf_congr
  intro j hj
  unfold byteAt
  rw [List.getElem?_append_left (by split <;> simp <;> omega)]
theorem rdNum_put (x n : Nat) (low : Bool) (hx : x < 256 ^ n) : rdNum (putNum x n low) 0 n low = x := by
  have := read_put [] x n low hx
  simpa using this
theorem flatten_get (ns : List (List UInt8)) (h : ∀ x ∈ ns, x.length = 32) (b : List UInt8) (k : Nat) (hk : k < ns.length) : ((ns.flatten ++ b).drop (32 * k)).take 32 = ns[k] := by
  have e : ns = ns.take k ++ (ns[k] :: ns.drop (k + 1)) := by rw [← List.drop_eq_getElem_cons hk, List.take_append_drop]
  have e2 : ns.flatten = (ns.take k).flatten ++ (ns[k] ++ (ns.drop (k + 1)).flatten) := by
    conv => lhs; rw [e]
    rw [List.flatten_append, List.flatten_cons]
  have hl : (ns.take k).flatten.length = 32 * k := by
    rw [flatten_length _ fun x hx => h x (List.mem_of_mem_take hx), List.length_take, Nat.min_eq_left (by omega)]
  rw [e2, List.append_assoc, List.drop_left' hl, List.append_assoc, List.take_left' (h _ (List.getElem_mem hk))]
theorem nodesAt_eq (l a b : List UInt8) (p : Nat) (ns : List (List UInt8)) (h : ∀ x ∈ ns, x.length = 32) (hl : l = a ++ (ns.flatten ++ b)) (ha : a.length = 36 + 32 * p) : nodesAt l p ns.length = ns := by
  apply List.ext_getElem
  · simp [nodesAt]
  · intro k h1 h2
    simp only [nodesAt, List.getElem_map, List.getElem_range]
    have := flatten_get ns h b k h2
    rw [nodeAt, hl, show 36 + 32 * (p + k) = a.length + 32 * k by omega, ← List.drop_drop, List.drop_left]
    exact this
theorem sig_back (g : Sg) (ok : g.ok) (o : Nat) (h : putOk g o = true) : sigVal (sigBytes g) o = g ∧ sigErr (sigBytes g) o = 0 := by
  simp only [putOk, may, Bool.and_eq_true, beq_iff_eq, decide_eq_true_eq] at h
  obtain ⟨hk, ⟨n67, nh⟩, hi⟩ := h
  have h1 : rdNum (sigBytes g) 0 4 false = g.i := by
    rw [sigBytes, rdNum_front _ _ _ _ (by rw [putNum_length]; omega), rdNum_put _ _ _ (by have := ok.i; omega)]
  have hlen : (sigBytes g).length = 36 + 32 * (67 + hgt o) := by
    rw [sigBytes]
    simp only [List.length_append, putNum_length, flatten_length _ ok.ots, flatten_length _ ok.auth, ok.r, n67, nh]; omega
  have hok : sigOk (sigBytes g) o = true := by simp [sigOk, hk, hlen, h1, hi]
  refine ⟨?_, by rw [sigErr, hk, hok]; rfl⟩
  rw [sigVal, if_pos hok, h1]
  have e2 : ((sigBytes g).drop 4).take 32 = g.r := by
    rw [sigBytes, List.drop_left' (putNum_length _ _ _), List.take_left' ok.r]
  have e3 : nodesAt (sigBytes g) 0 67 = g.ots := by
    have := nodesAt_eq (sigBytes g) (putNum g.i 4 false ++ g.r) g.auth.flatten 0 g.ots ok.ots (by simp [sigBytes]) (by rw [List.length_append, putNum_length, ok.r])
    rwa [n67] at this
  have e4 : nodesAt (sigBytes g) 67 (hgt o) = g.auth := by
    have := nodesAt_eq (sigBytes g) (putNum g.i 4 false ++ (g.r ++ g.ots.flatten)) [] 67 g.auth ok.auth (by simp [sigBytes]) (by simp only [List.length_append, putNum_length, ok.r, flatten_length _ ok.ots, n67])
    rwa [nh] at this
  rw [e2, e3, e4]

set_option maxRecDepth 100000 in
set_option maxHeartbeats 4000000 in
theorem xmssPuts_walk (w : World) (g : Sg) (A1 A2 : Option Addr) (d1 d2 : Nat) (ok : g.ok) (r1 : Rd w w.heap.size 32 A1 g.ots.length (ncells g.ots)) (r2 : Rd w w.heap.size 32 A2 g.auth.length (ncells g.auth))
    (a1 : Int) (w1 : (Lit.int .u32 a1).wf = true) :
    Calls Try.prog 6 #[.agg (sigCells g.i g.r (.slice A1 g.ots.length d1) (.slice A2 g.auth.length d2)).toArray, .int .u32 a1] w fun e w' => e = .returned (.bool true) ∧ Below w.heap.size w w' := by
  obtain ⟨o, ho, rfl⟩ := wf_u32' w1
  clear w1
  have hb := Blk.new w 32 (sigCells g.i g.r (.slice A1 g.ots.length d1) (.slice A2 g.auth.length d2)).toArray
  have B0 : Below w.heap.size w (w.alloc (.cells (sigCells g.i g.r (.slice A1 g.ots.length d1) (.slice A2 g.auth.length d2)).toArray 32)) := (Below.refl _ _).alloc (Nat.le_refl _) _
  have hv35 : Hid ((sigCells g.i g.r (.slice A1 g.ots.length d1) (.slice A2 g.auth.length d2)).toArray.size = 35) := Lib.hid (sg35 _ _ _ _ ok.r)
  have hzz : Hid (zsig.size = 35) := Lib.hid (by kernel_rfl)
  have gm := fun W q1 q2 => mPutSig_any g ok o A1 A2 d1 d2 W q1 q2
  have gr := fun W q1 q2 => rPutSig_any g ok o A1 A2 d1 d2 W q1 q2
  have hback : Hid (putSigErr g o = 0 → sigVal (putSigVal g o) o = g ∧ sigErr (putSigVal g o) o = 0) := Lib.hid fun h => by
    have hp : putOk g o = true := by
      cases hq : putOk g o with
      | true => rfl
      | false => rw [putSigErr, hq] at h; split at h <;> simp at h
    rw [putSigVal, if_pos hp]
    exact sig_back g ok o hp
  generalize putSigVal g o = L at *
  generalize putSigErr g o = X at *
  have hZ := sigVal_ok L o
  have hZl := sigVal_len L o
  go_enter Try.func6, Try.ntmps6
  go_wp2_with fail
  generalize w.alloc (.cells (sigCells g.i g.r (.slice A1 g.ots.length d1) (.slice A2 g.auth.length d2)).toArray 32) = W0 at *
  refine (awake08 W0).mono ?_
  rintro e W1 ⟨rfl, hB1⟩
  have hb := hb.below hB1 hb.lt
  have B1 := B0.trans (hB1.mono B0.size)
  obtain ⟨x0, x1, x2⟩ := sig_cell35 ok.r hb
  by_cases h70 : g.ots.length ≤ 70
  · by_cases h30 : g.auth.length ≤ 30
    · go_wp2_with (first
        | ((with_reducible refine at_load 32 ?_); refine wpList_loadAll W1 rfl 32 _ rfl w.heap.size 32 _ hb _ rfl Try.underlying32 rfl (by rw [hv35.out]; exact inf35) ?_)
        | fail)
      refine (gm W1 ((r1.below B1).more B1.size) ((r2.below B1).more B1.size)).mono ?_
      rintro e W2 ⟨A3, c3, rfl, q3, r3, hB2⟩
      have hb := hb.below hB2 hb.lt
      have B2 := B1.trans (hB2.mono B1.size)
      clear x0 x1 x2
      go_wp2_with (first
        | ((with_reducible refine at_load 32 ?_); refine wpList_loadAll W2 rfl 32 _ rfl w.heap.size 32 _ hb _ rfl Try.underlying32 rfl (by rw [hv35.out]; exact inf35) ?_)
        | fail)
      refine (gr W2 ((r1.below B2).more B2.size) ((r2.below B2).more B2.size)).mono ?_
      rintro e W3 ⟨A4, c4, rfl, q4, r4, hB3⟩
      have hb := hb.below hB3 hb.lt
      have B3 := B2.trans (hB3.mono B2.size)
      have r3 := (r3.below hB3).more hB3.size
      have s3 := strAt (c := c3) r3
      have s4 := strAt (c := c4) r4
      have hsz3 := B3.size
      go_wp2_with fail
      refine (mSigOf_any A3 L.length c3 L o W3 r3 q3).mono ?_
      rintro e W4 ⟨A5, c5, A6, c6, rfl, q5, q6, r5, r6, hB4⟩
      have hb := hb.below hB4 hb.lt
      have B4 := B3.trans (hB4.mono B3.size)
      have hlx := hb.lt
      generalize sigVal L o = G at *
      generalize sigErr L o = Y at *
      have hv35' : Hid ((sigCells G.i G.r (.slice A5 G.ots.length c5) (.slice A6 G.auth.length c6)).toArray.size = 35) := Lib.hid (sg35 _ _ _ _ hZ.r)
      have hz4 := Blk.new W4 32 zsig
      have B4' := B4.alloc B4.size (.cells zsig 32)
      clear s3 s4 r3 r4 hsz3
      by_cases hX : X = 0
      · obtain ⟨eg, ey⟩ := hback.out hX
        subst ey eg hX
        go_wp2_with (first
          | ((with_reducible refine at_store 32 ?_); refine wpList_storeAll _ rfl 32 _ _ rfl W4.heap.size 32 _ (sigCells G.i G.r (.slice A5 G.ots.length c5) (.slice A6 G.auth.length c6)).toArray hz4 rfl rfl (by rw [hv35'.out, hzz.out]) (by rw [hv35'.out]; exact inf35) (sg35_one _ _ _ _ rfl rfl) ?_; intro W5 hb5 hg5 hs5;
              have hC5 := (Chg.of_ext (Z := fun b => b = W4.heap.size) ((Ext.refl W4).alloc (.cells zsig 32))).trans (Chg.grown hg5 (by rintro k h; cases h; rfl)); have hx5 := hb.chg hC5 (by show ¬ _ = _; omega))
          | ((with_reducible refine at_load 32 ?_); refine wpList_loadAllW W5 rfl 32 _ rfl W4.heap.size 32 _ hb5 _ rfl Try.underlying32 rfl (by rw [hv35'.out]; exact inf35) ?_)
          | ((with_reducible refine at_load 32 ?_); refine wpList_loadAllW W5 rfl 32 _ rfl w.heap.size 32 _ hx5 _ rfl Try.underlying32 rfl (by rw [hv35.out]; exact inf35) ?_)
          | fail)
        have B5 := grown_below B4' hg5 (by simp; have := B4.size; omega) B4.size
        have s5 := hC5.size
        have rr := fun {size n : Nat} {A : Option Addr} {xs : List Value} (r : Rd W4 W4.heap.size size A n xs) => (r.chg hC5 (Nat.le_refl _) (fun k e => by have e2 : k = W4.heap.size := e; omega)).more s5
        refine (sameSig_same G ok A5 A6 A1 A2 c5 c6 d1 d2 W5 (by omega) (by omega) (rr r5) (rr r6) ((r1.below B5).more B5.size) ((r2.below B5).more B5.size)).mono ?_
        rintro e W6 ⟨rfl, hB6⟩
        go_wp2
        go_ret
        exact ⟨rfl, B5.trans (hB6.mono B5.size)⟩
      · have hXb : (X == 0) = false := by simpa using hX
        have hXn : (X != 0) = true := by simpa using hX
        go_wp2_with (first
          | ((with_reducible refine at_store 32 ?_); refine wpList_storeAll _ rfl 32 _ _ rfl W4.heap.size 32 _ (sigCells G.i G.r (.slice A5 G.ots.length c5) (.slice A6 G.auth.length c6)).toArray hz4 rfl rfl (by rw [hv35'.out, hzz.out]) (by rw [hv35'.out]; exact inf35) (sg35_one _ _ _ _ rfl rfl) ?_; intro W5 hb5 hg5 hs5)
          | fail)
        have B5 := grown_below B4' hg5 (by simp; have := B4.size; omega) B4.size
        go_ret
        exact ⟨rfl, B5⟩
    · go_wp2
      go_ret
      exact ⟨rfl, B1⟩
  · go_wp2
    go_ret
    exact ⟨rfl, B1⟩
end Go.Proofs.Ytnjfghlgknnhmaa
