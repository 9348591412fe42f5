/-
  Walk: the reference's Write.
-/
import Derived.Test.YtjfmgoickokbjaaMaW
namespace Go.Proofs.Ytjfmgoickokbjaa
open Go.RowKit

def RAfter (w w' : World) (r : Nat) (ram : Sp) (m : Mm) (F : Nat → Prop) (N : Nat) : Prop := ∃ F', RMem w' r ram m F' N ∧ Chg F w w' ∧ (∀ b, F b → F' b) ∧ ∀ b, F' b → F b ∨ w.heap.size ≤ b
/-- a page that is there behind find -/
theorem find_made {w w' : World} {r : Nat} {ram : Sp} {m : Mm} {F : Nat → Prop} {ps : List (Nat × Nat)} {A : Option Addr} {c k : Nat} {e : Ending} (hP : RM w r ram m F ps A c) (h : FindRet w r ram m F ps k true e w') :
    ∃ j x ps2 A2 c2 F2, e = .returned (.int .i64 ((j : Nat) : Int)) ∧ ps2[j]? = some x ∧ x.1 = k ∧ RM w' r ram m F2 ps2 A2 c2 ∧ Chg F w w' ∧ (∀ b, F b → F2 b) ∧ (∀ b, F2 b → F b ∨ w.heap.size ≤ b) ∧ ps2.length ≤ ps.length + 1 := by
  rcases h with ⟨j, x, rfl, h1, h2, rfl⟩ | ⟨_, h1, _⟩ | ⟨_, _, rfl, F', A1, c1, g, h1, h2, h3, h4⟩
  · exact ⟨j, x, ps, A, c, F, rfl, h1, h2, hP, Chg.refl _ _, fun _ h => h, fun _ h => .inl h, Nat.le_succ _⟩
  · cases h1
  · exact ⟨ps.length, (k, g), ps ++ [(k, g)], A1, c1, F', rfl, by simp, rfl, h1, h2, h3, h4, by simp⟩

set_option maxRecDepth 100000 in
set_option maxHeartbeats 2000000 in
theorem rwrite_any (r : Nat) (ram : Sp) (okr : ram.ok) (hr40 : ram.base + ram.size ≤ 1099511627776) (m : Mm) (F : Nat → Prop) (N : Nat) (ad : Nat) (A : Option Addr) (n c : Nat) (l : List UInt8) (had : ad < 18446744073709551616) (hl : n = l.length) (hnc : n ≤ c) (hc : c ≤ 9223372036854775807)
    (hN : N + n ≤ 1000000) (w : World) (hR : Rd w w.heap.size 1 A n (bcells l)) (hfar : 0 < n → ∀ x, A = some x → ¬ F x.block) (hM : RMem w r ram m F N) :
    Calls Try.prog 45 #[.pointer (some ⟨r, 0, none⟩), .int .u64 (ad : Int), .slice A n c] w fun e w' => e = .returned (.int .i64 (askErr ram ad n)) ∧ RAfter w w' r ram (writeV ram m ad l) F (N + n) := by
  obtain ⟨ps, Ap, cp, hP, hps⟩ := hM
  have HL := Lib.hid hl
  clear hl
  have hcv : IntKind.u64.wrap (n : Int) = (n : Int) := IntWalk.u64_in _ (by omega)
  go_enter Try.func45, Try.ntmps45
  go_wp2_with fail
  refine (rask_any r ram okr _ ad n had (by omega) w hP.blk).mono ?_
  rintro e W1 ⟨rfl, B1⟩
  have hP1 := hP.below B1 (Nat.le_refl _)
  obtain ⟨E, hE⟩ : ∃ E, E = askErr ram ad n := ⟨_, rfl⟩
  rw [← hE]
  have C1 : Chg F w W1 := Chg.of_ext B1
  by_cases h0 : E = 0
  · have hV : Hid (writeV ram m ad l = writeM m ad l) := Lib.hid (by rw [writeV, ← HL.out, ← hE, if_pos h0])
    have HE := Lib.hid hE
    obtain ⟨hn1, hin⟩ := ask_ok (by rw [← hE]; exact h0)
    have hin : n = 0 ∨ ad + n ≤ 1099511627776 := by omega
    have HIN := Lib.hid hin
    have hsrc : Hid (0 < n → ∃ b off, A = some ⟨b, off, none⟩ ∧ b < w.heap.size ∧ ¬ F b ∧ w.rangeAt b off (bcells l)) := Lib.hid (fun h => by
      obtain ⟨b, off, rfl, h1, h2⟩ := hR.range (by omega)
      exact ⟨b, off, rfl, h1, hfar h _ rfl, h2⟩)
    subst h0
    clear hE hin hR hfar hcv hP
    go_wp2
    go_loopw [1, 2] (fun u v wr => ∃ j : Nat, j ≤ n ∧ u = .int .u64 ((ad + j : Nat) : Int) ∧ (∃ A', v = .slice A' (n - j) (c - j) ∧ (j < n → ∀ b off, A = some ⟨b, off, none⟩ → A' = some ⟨b, off + j, none⟩)) ∧
      ∃ F' qs A9 c9, qs.length ≤ N + j ∧ RM wr r ram (writeM m ad (l.take j)) F' qs A9 c9 ∧ Chg F w wr ∧ (∀ b, F b → F' b) ∧ ∀ b, F' b → F b ∨ w.heap.size ≤ b) (fun _ v _ => match v with | .slice _ k _ => k | _ => 0)
    case atStart => exact ⟨0, Nat.zero_le _, rfl, ⟨A, rfl, fun _ b off h => by rw [h]; rfl⟩, F, ps, Ap, cp, hps, by rw [List.take_zero, writeM_nil]; exact hP1, C1, fun _ h => h, fun _ h => .inl h⟩
    case round =>
      obtain ⟨j, hj, rfl, ⟨A', rfl, hA'⟩, F', qs, A9, c9, hq9, hP3, hC, hF1, hF2⟩ := hrel
      by_cases hlt : j < n
      · have had2 : ad + n ≤ 1099511627776 := by have := HIN.out; omega
        obtain ⟨b0, off, rfl, hb0, hFb0, hrng⟩ := hsrc.out (by omega)
        have hA2 := hA' hlt b0 off rfl
        subst hA2
        obtain ⟨x, hx⟩ : ∃ x, x = ad + j := ⟨_, rfl⟩
        rw [← hx]
        obtain ⟨q, hq⟩ : ∃ q, q = x / 4096 := ⟨_, rfl⟩
        obtain ⟨o, ho⟩ : ∃ o, o = x % 4096 := ⟨_, rfl⟩
        obtain ⟨at_, hat⟩ : ∃ a, a = 4096 * q := ⟨_, rfl⟩
        obtain ⟨s, hs⟩ : ∃ s, s = Nat.min (n - j) (4096 - o) := ⟨_, rfl⟩
        have hs' : s ≤ n - j ∧ s ≤ 4096 - o ∧ 1 ≤ s := by
          have : Nat.min (n - j) (4096 - o) = min (n - j) (4096 - o) := rfl
          rw [this] at hs; omega
        have hq52 : q < 4503599627370496 := by omega
        have ho4 : o < 4096 := by omega
        have hxq : x = 4096 * q + o := by omega
        have hx2 : (x : Int) % 4096 = (o : Int) := by omega
        have hx3 : (x : Int) / 4096 = (q : Int) := by omega
        have hx4 : IntKind.u64.wrap ((x : Int) + (s : Int)) = ((x + s : Nat) : Int) := by rw [IntWalk.u64_in _ (by omega)]; omega
        have hx5 : IntKind.u64.wrap (s : Int) = (s : Int) := IntWalk.u64_in _ (by omega)
        have hx6 : IntKind.u64.wrap ((q : Int) * 4096) = (at_ : Int) := by rw [IntWalk.u64_in _ (by omega)]; omega
        obtain ⟨A2, hA2⟩ : ∃ A2 : Addr, A2 = if c - j = s then ⟨b0, off + j, none⟩ else ⟨b0, off + j + s, none⟩ := ⟨_, rfl⟩
        have hsl := fun W => run_slice_loK (P := Try.prog) W 26 (by kernel_rfl) (by kernel_rfl) b0 (off + j) (n - j) (c - j) s .i64 (s : Int) rfl hs'.1
        rw [← hA2] at hsl
        have hA3 : Hid (j + s < n → A2 = ⟨b0, off + (j + s), none⟩) := Lib.hid (fun h => by rw [hA2, if_neg (by omega), Nat.add_assoc])
        have HX := Lib.hid hx
        have HXQ := Lib.hid hxq
        have HS := Lib.hid hs
        have hdr : n - j = (l.drop j).length := by rw [List.length_drop, ← HL.out]
        have HD := Lib.hid hdr
        have hb0r : b0 < wr.heap.size := Nat.lt_of_lt_of_le hb0 hC.size
        have hrr : wr.rangeAt b0 (off + j) (bcells (l.drop j)) := by
          have h1 := range_chg hrng (hC.block b0 hb0 hFb0)
          intro i v hv
          have e : (bcells (l.drop j))[i]? = (bcells l)[j + i]? := by simp [bcells]
          rw [e] at hv
          have := h1 (j + i) v hv
          rwa [← Nat.add_assoc] at this
        have hFb : ¬ F' b0 := fun h => by
          rcases hF2 b0 h with h1 | h1
          · exact hFb0 h1
          · omega
        have hend : ∀ y W W3 F2 ps2 A5 c5, y ∈ ps2 → y.1 = q → RM W r ram (writeM m ad (l.take j)) F2 ps2 A5 c5 → Chg F w W → W.grownBy W3 (some y.2) → (∀ b, F2 b → F b ∨ w.heap.size ≤ b) →
            Blk W3 y.2 5 (bcells ((pageOf (writeM m ad (l.take j)) q).take o ++ (l.drop j).take s ++ (pageOf (writeM m ad (l.take j)) q).drop (o + ((l.drop j).take s).length))).toArray →
            RM W3 r ram (writeM m ad (l.take (j + s))) F2 ps2 A5 c5 ∧ Chg F w W3 := by
          intro y W W3 F2 ps2 A5 c5 h0 h1 h2 h3 h4 h6 h7
          have e1 : ((l.drop j).take s).length = s := by rw [List.length_take, ← HD.out]; omega
          have h8 := h2.put (o := o) h0 (by rw [e1]; omega) h4 (by rw [h1]; exact h7)
          rw [h1, ← HXQ.out, HX.out] at h8
          have e2 : ad + j = ad + (l.take j).length := by rw [List.length_take, ← HL.out]; omega
          rw [e2, writeM_append, take_step] at h8
          have hFg := (h2.rows y h0).2.1
          refine ⟨h8, h4.os.trans h3.os, h4.tape.trans h3.tape, h4.output.trans h3.output, Nat.le_trans h3.size h4.size, fun k hk hnF => (h4.block k (Nat.lt_of_lt_of_le hk h3.size) (fun e => ?_)).trans (h3.block k hk hnF)⟩
          cases e
          rcases h6 _ hFg with h9 | h9
          · exact hnF h9
          · omega
        have hfind := rfind_any r ram (writeM m ad (l.take j)) F' qs A9 c9 q at_ hq52 hat (by omega) true wr hP3
        clear hrng hA' hA2 hx hq ho hs hxq hdr had2 hat
        go_wp2_with fail
        refine hfind.mono ?_
        rintro e w5 hFR
        obtain ⟨i, y, ps2, A5, c5, F2, rfl, hi, hyq, hP5, hC5, h51, h52, hlen⟩ := find_made hP3 hFR
        have hym := List.mem_of_getElem? hi
        obtain ⟨pb, po, hA5, _, cb⟩ := hP5.cells hi
        have hrow := (hP5.rows y hym).1
        rw [hyq] at hrow
        obtain ⟨g, hg⟩ : ∃ g, g = y.2 := ⟨_, rfl⟩
        rw [← hg] at cb hrow
        have c2 : w5.cell? ⟨r, 2, none⟩ = some (.slice A5 ps2.length c5) := (hP5.blk.cell 2).trans rfl
        rw [hA5] at c2
        have hil : i < ps2.length := (List.getElem?_eq_some_iff.1 hi).1
        have hF25 : ∀ b, F2 b → F b ∨ w.heap.size ≤ b := fun b hb => by
          rcases h52 b hb with h6 | h6
          · exact hF2 b h6
          · exact .inr (Nat.le_trans hC.size h6)
        have hCw5 : Chg F w w5 := ⟨hC5.os.trans hC.os, hC5.tape.trans hC.tape, hC5.output.trans hC.output, Nat.le_trans hC.size hC5.size, fun k hk hnF => (hC5.block k (Nat.lt_of_lt_of_le hk hC.size) (fun hFk => by
          rcases hF2 k hFk with h6 | h6
          · exact hnF h6
          · omega)).trans (hC.block k hk hnF)⟩
        have hrr5 := range_chg hrr (hC5.block b0 hb0r hFb)
        have hb05 : b0 < w5.heap.size := Nat.lt_of_lt_of_le hb0r hC5.size
        have hE2 := fun w6 h1 h2 => hend y w5 w6 F2 ps2 A5 c5 hym hyq hP5 hCw5 (by rw [← hg]; exact h1) hF25 (by rw [← hg]; exact h2)
        have HA5 := Lib.hid hA5
        unfold pgV at cb
        clear hfind hFR hend hi hym hA5 hg hyq hrr hC5 h52 hP3 hP5
        go_wp2_with ((with_reducible refine at_copy ?_); refine wpList_copyG w5 Try.underlying26 (by kernel_rfl) rfl _ _ rfl g o (4096 - o) (4096 - o) _ (l.drop j) hrow rfl b0 (off + j) (n - j) (c - j) rfl HD.out hrr5 hb05 s HS.out (by rw [pageOf_length]; omega) ?_; intro w6 hb6 hg6 hs6; obtain ⟨hP6, hC6⟩ := hE2 w6 hg6 hb6)
        go_roundw
        case rel => exact ⟨j + s, by omega, congrArg (Value.int .u64) (by have := HX.out; omega), ⟨some A2, by rw [Nat.sub_sub, Nat.sub_sub], fun hjs b off' h => by cases h; rw [hA3.out hjs]⟩, F2, ps2, A5, c5, by omega, hP6, hC6, fun b h => h51 b (hF1 b h), hF25⟩
        case measure => show n - j - s < n - j; omega
      · obtain rfl : j = n := by omega
        go_wp2
        go_ret
        refine ⟨ret_int HE.out, F', ?_, hC, hF1, hF2⟩
        rw [List.take_of_length_le (by rw [HL.out]; exact Nat.le_refl _)] at hP3
        rw [hV.out]
        exact ⟨qs, A9, c9, hP3, hq9⟩
  · have hV : Hid (writeV ram m ad l = m) := Lib.hid (by rw [writeV, ← HL.out, ← hE, if_neg h0])
    have hne : (E != 0) = true := by simpa using h0
    have HE := Lib.hid hE
    clear hE h0 hP hcv
    go_wp2
    go_ret
    refine ⟨ret_int HE.out, F, ?_, C1, fun _ h => h, fun _ h => .inl h⟩
    rw [hV.out]
    exact ⟨ps, Ap, cp, hP1, by omega⟩
end Go.Proofs.Ytjfmgoickokbjaa
