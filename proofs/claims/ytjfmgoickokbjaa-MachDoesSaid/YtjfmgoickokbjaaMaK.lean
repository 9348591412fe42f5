/-
  Walks: (*Mem).Put, (*Mem).Word.
-/
import Derived.Test.YtjfmgoickokbjaaMaJ
namespace Go.Proofs.Ytjfmgoickokbjaa
open Go.RowKit

theorem MAfter.from {w w1 w2 : World} {p : Nat} {ram : Sp} {m : Mm} {F : Nat → Prop} {N : Nat} (hB : Below w.heap.size w w1) (h : MAfter w1 w2 p ram m F N) : MAfter w w2 p ram m F N := by
  obtain ⟨F', h1, h2, h3, h4⟩ := h
  refine ⟨F', h1, ((Chg.of_ext hB : Chg F w w1)).trans h2, h3, fun b hb => ?_⟩
  rcases h4 b hb with h5 | h5
  · exact .inl h5
  · exact .inr (Nat.le_trans hB.size h5)
theorem MAfter.same {w w1 : World} {p : Nat} {ram : Sp} {m : Mm} {F : Nat → Prop} {N : Nat} (hB : Below w.heap.size w w1) (h : PMem w p ram m F N) : MAfter w w1 p ram m F N :=
  ⟨F, h.below hB (Nat.le_refl _), Chg.of_ext hB, fun _ h => h, fun _ h => .inl h⟩
theorem MAfter.more {w w1 : World} {p : Nat} {ram : Sp} {m : Mm} {F : Nat → Prop} {N N' : Nat} (h : MAfter w w1 p ram m F N) (hN : N ≤ N') : MAfter w w1 p ram m F N' := by
  obtain ⟨F', h1, h2⟩ := h; exact ⟨F', h1.more hN, h2⟩
def mputErr (ram : Sp) (a : Nat) : Int := if a % 8 = 0 then askErr ram a 8 else 90
def putV (ram : Sp) (m : Mm) (a x : Nat) : Mm := if a % 8 = 0 then writeV ram m a (putNum x 8 true) else m
theorem own_far {w : World} {base n : Nat} {e : TypeId} {A : Option Addr} {c : Nat} {xs : List Value} (h : w.ownsRow base e 1 (.slice A n c) n xs) {F : Nat → Prop} (hF : ∀ b, F b → b < base) : ∀ x, A = some x → ¬ F x.block := by
  intro x hx hf
  subst hx
  rcases h.2 with ⟨e1, _⟩ | ⟨g, cap, cur, e1, h1, _⟩
  · cases e1
  · cases e1
    exact absurd (hF _ hf) (Nat.not_lt.2 h1)
theorem run_u64s (w : World) (x : Int) : (Instr.buildSlice 72 1 #[(0, .int .u64 x)]).run Try.prog w = .ok (.slice (some ⟨w.heap.size, 0, none⟩) 1 1) (w.alloc (.cells #[.int .u64 x] 22)) := by
  go_simp

set_option maxRecDepth 100000 in
set_option maxHeartbeats 1000000 in
theorem mput_any (p : Nat) (ram : Sp) (okr : ram.ok) (hr40 : ram.base + ram.size ≤ 1099511627776) (m : Mm) (F : Nat → Prop) (N : Nat) (ad : Nat) (x : Nat) (had : ad < 18446744073709551616) (hN : N + 8 < maxLen) (w : World) (hM : PMem w p ram m F N) :
    Calls Try.prog 22 #[.pointer (some ⟨p, 0, none⟩), .int .u64 (ad : Int), .int .u64 (x : Int)] w fun e w' => e = .returned (.int .i64 (mputErr ram ad)) ∧ MAfter w w' p ram (putV ram m ad x) F (N + 8) := by
  have HN := Lib.hid hN
  clear hN
  obtain ⟨r, hr⟩ : ∃ r, r = ad % 8 := ⟨_, rfl⟩
  have hr1 : (ad : Int) % 8 = (r : Int) := by omega
  by_cases h0 : r = 0
  · subst h0
    have he : Hid (mputErr ram ad = askErr ram ad 8) := Lib.hid (by rw [mputErr, if_pos hr.symm])
    have hv : Hid (putV ram m ad x = writeV ram m ad (putNum x 8 true)) := Lib.hid (by rw [putV, if_pos hr.symm])
    have hbk := Blk.new w 22 #[.int .u64 (x : Int)]
    have hBk : Below w.heap.size w (w.alloc (.cells #[.int .u64 (x : Int)] 22)) := (Below.refl _ _).alloc (Nat.le_refl _) _
    have hp := putLe64_any none 0 0 [] (w.alloc (.cells #[.int .u64 (x : Int)] 22)) (some ⟨w.heap.size, 0, none⟩) 1 1 [x] (Rd.nil _ _ _ _) (by omega) (hbk.rd rfl) (by omega)
    have e1 : putAll [x] 8 true = putNum x 8 true := by simp [putAll]
    simp only [Nat.zero_add, Nat.mul_one, List.nil_append, e1] at hp
    have hlen := putNum_length x 8 true
    obtain ⟨L, hL⟩ : ∃ L, L = putNum x 8 true := ⟨_, rfl⟩
    rw [← hL] at hp hlen hv
    have HLEN := Lib.hid hlen.symm
    clear hr hbk e1 hL hlen
    go_enter Try.func22, Try.ntmps22
    go_wp2_with fail
    refine hp.mono ?_
    rintro e w2 ⟨A, c, rfl, hO, hB2⟩
    have B2 := hBk.trans (hB2.mono hBk.size)
    have hM2 := hM.below B2 (Nat.le_refl _)
    have hw := mwrite_any p ram okr hr40 m F N ad A 8 c L had HLEN.out (Flow.own_le hO) (by
      rcases hO.2 with ⟨e1, _⟩ | ⟨g, cap, cur, e1, _, _, _, h4, _⟩
      · cases e1
      · cases e1; simp only [maxLen] at h4; omega) HN.out w2 (Rd.of_own hO) (fun _ => own_far hO (fun b hb => Nat.lt_of_lt_of_le (hM.flt b hb) (by simp))) hM2
    clear hp hO
    go_wp2_with fail
    refine hw.mono ?_
    rintro e w3 ⟨rfl, hA⟩
    go_wp2
    go_ret
    exact ⟨ret_int he.out.symm, by rw [hv.out]; exact hA.from B2⟩
  · have he : Hid (mputErr ram ad = 90) := Lib.hid (by rw [mputErr, if_neg (by omega)])
    have hv : Hid (putV ram m ad x = m) := Lib.hid (by rw [putV, if_neg (by omega)])
    have hne : ((r : Int) != 0) = true := by simp; omega
    clear hr h0
    go_enter Try.func22, Try.ntmps22
    go_wp2
    go_ret
    exact ⟨ret_int he.out.symm, by rw [hv.out]; exact MAfter.same (Below.refl _ _) (hM.more (by omega))⟩

def wordErr (ram : Sp) (a : Nat) : Int := if a % 8 = 0 ∧ askErr ram a 8 = 0 then 0 else 90
def wordV (ram : Sp) (m : Mm) (a : Nat) : Nat := if a % 8 = 0 ∧ askErr ram a 8 = 0 then rdNum (readM m a 8) 0 8 true else 0
theorem word_page (m : Mm) (a q o : Nat) (ha : a = 4096 * q + o) (ho : o + 8 ≤ 4096) : rdNum (pageOf m q) (o : Int) 8 true = rdNum (readM m a 8) 0 8 true := by
  have h1 : (0 : Int) ≤ (o : Int) ∧ (o : Int) + (8 : Nat) ≤ ((pageOf m q).length : Nat) := by rw [pageOf_length]; omega
  have h2 : (0 : Int) ≤ 0 ∧ (0 : Int) + (8 : Nat) ≤ ((readM m a 8).length : Nat) := by rw [readM_length]; omega
  rw [rdNum, rdNum, if_pos h1, if_pos h2]
  unfold readNum
  apply numOf_congr
  intro j hj
  rw [byteAt_low, byteAt_low]
  have e1 : (o : Int).toNat = o := by omega
  have e2 : (0 : Int).toNat = 0 := rfl
  rw [e1, e2, pageOf_get _ _ _ (by omega), readM_get _ _ _ _ (by omega), ha]
  have : 4096 * q + (o + 8 - 1 - j) = 4096 * q + o + (0 + 8 - 1 - j) := by omega
  rw [this]
theorem numOf_zero : ∀ k, numOf (fun _ => 0) k = 0
  | 0 => rfl
  | k + 1 => by rw [numOf, numOf_zero k]
theorem word_zero (m : Mm) (a : Nat) (h : ∀ i, i < 8 → m (a + i) = 0) : rdNum (readM m a 8) 0 8 true = 0 := by
  have h2 : (0 : Int) ≤ 0 ∧ (0 : Int) + (8 : Nat) ≤ ((readM m a 8).length : Nat) := by rw [readM_length]; omega
  rw [rdNum, if_pos h2]
  unfold readNum
  have : numOf (byteAt (readM m a 8) (0 : Int).toNat 8 true) 8 = numOf (fun _ => 0) 8 := by
    apply numOf_congr
    intro j hj
    rw [byteAt_low]
    have e2 : (0 : Int).toNat = 0 := rfl
    rw [e2, readM_get _ _ _ _ (by omega), h _ (by omega)]; rfl
  rw [this, numOf_zero]

set_option maxRecDepth 100000 in
set_option maxHeartbeats 1000000 in
theorem mword_any (p : Nat) (ram : Sp) (okr : ram.ok) (m : Mm) (F : Nat → Prop) (N : Nat) (ad : Nat) (had : ad < 18446744073709551616) (w : World) (hM : PMem w p ram m F N) :
    Calls Try.prog 24 #[.pointer (some ⟨p, 0, none⟩), .int .u64 (ad : Int)] w fun e w' => e = .returned (.tuple #[.int .u64 (wordV ram m ad : Int), .int .i64 (wordErr ram ad)]) ∧ Below w.heap.size w w' := by
  obtain ⟨r, hr⟩ : ∃ r, r = ad % 8 := ⟨_, rfl⟩
  have hr1 : (ad : Int) % 8 = (r : Int) := by omega
  by_cases h0 : r = 0
  · subst h0
    obtain ⟨bm, D, pg, hP⟩ := hM
    have hask := mask_any p ram okr bm ad 8 had (by omega) w hP.blk
    obtain ⟨E, hE⟩ : ∃ E, E = askErr ram ad 8 := ⟨_, rfl⟩
    rw [← hE] at hask
    obtain ⟨q, hq⟩ : ∃ q, q = ad / 4096 := ⟨_, rfl⟩
    obtain ⟨o, ho⟩ : ∃ o, o = ad % 4096 := ⟨_, rfl⟩
    have hq64 : q < 18446744073709551616 := by omega
    have ho8 : o + 8 ≤ 4096 := by omega
    have hxq : ad = 4096 * q + o := by omega
    have hx2 : (ad : Int) % 4096 = (o : Int) := by omega
    have hx3 : (ad : Int) / 4096 = (q : Int) := by omega
    have HR := Lib.hid hr
    have HE := Lib.hid hE
    have HXQ := Lib.hid hxq
    clear hr hE hq ho hxq
    go_enter Try.func24, Try.ntmps24
    go_wp2_with fail
    refine hask.mono ?_
    rintro e W1 ⟨rfl, B1⟩
    have hP1 := hP.below B1 (Nat.le_refl _)
    clear hask hP
    by_cases hE0 : E = 0
    · have he : Hid (wordErr ram ad = 0) := Lib.hid (by rw [wordErr, if_pos ⟨HR.out.symm, by rw [← HE.out]; exact hE0⟩])
      have hv : Hid (wordV ram m ad = rdNum (readM m ad 8) 0 8 true) := Lib.hid (by rw [wordV, if_pos ⟨HR.out.symm, by rw [← HE.out]; exact hE0⟩])
      have hlk := hP1.look q hq64
      have c2 : W1.cell? ⟨p, 2, none⟩ = some (.map (some bm)) := (hP1.blk.cell 2).trans rfl
      clear HE
      subst hE0
      cases hpg : pg q with
      | none =>
        rw [hpg] at hlk
        have hzz : Hid (∀ i, i < 8 → m (ad + i) = 0) := Lib.hid (fun i hi => by rw [HXQ.out, Nat.add_assoc]; exact hP1.zero q hpg (o + i) (by omega))
        have hnn := nilEq
        clear hpg
        go_wp2
        go_ret2
        rw [he.out, hv.out, word_zero m ad hzz.out]
        exact ⟨rfl, B1⟩
      | some g =>
        rw [hpg] at hlk
        have hrow := (hP1.rows q g hpg).1
        have hpe := pgEq g
        have hrd := hrow.rd (size := 1) (n := 4096) (by rw [List.size_toArray, bcells_length, pageOf_length])
        rw [List.toList_toArray] at hrd
        unfold pgV at hlk hpe
        have hx5 : IntKind.i64.wrap (o : Int) = (o : Int) := by rw [IntWalk.i64_in _ (by omega)]
        clear hpg
        go_wp2_with fail
        refine (le64_any (some ⟨g, 0, none⟩) 4096 4096 (o : Int) (pageOf m q) W1 hrd (by omega)).mono ?_
        rintro e w' ⟨rfl, rfl⟩
        have hnum : Hid (rdNum (pageOf m q) (o : Int) 8 true = wordV ram m ad) := Lib.hid (by rw [hv.out]; exact word_page m ad q o HXQ.out ho8)
        rw [hnum.out]
        clear hv hlk hrd
        go_wp2
        go_ret2
        rw [he.out]
        exact ⟨rfl, B1⟩
    · have he : Hid (wordErr ram ad = 90) := Lib.hid (by rw [wordErr, if_neg (fun h => hE0 (by rw [HE.out]; exact h.2))])
      have hv : Hid (wordV ram m ad = 0) := Lib.hid (by rw [wordV, if_neg (fun h => hE0 (by rw [HE.out]; exact h.2))])
      have hne : (E != 0) = true := by simpa using hE0
      clear hE0 HE
      go_wp2
      go_ret2
      rw [he.out, hv.out]
      exact ⟨rfl, B1⟩
  · have he : Hid (wordErr ram ad = 90) := Lib.hid (by rw [wordErr, if_neg (by omega)])
    have hv : Hid (wordV ram m ad = 0) := Lib.hid (by rw [wordV, if_neg (by omega)])
    have hne : ((r : Int) != 0) = true := by simp; omega
    clear hr h0
    go_enter Try.func24, Try.ntmps24
    go_wp2
    go_ret2
    rw [he.out, hv.out]
    exact ⟨rfl, Below.refl _ _⟩
end Go.Proofs.Ytjfmgoickokbjaa
