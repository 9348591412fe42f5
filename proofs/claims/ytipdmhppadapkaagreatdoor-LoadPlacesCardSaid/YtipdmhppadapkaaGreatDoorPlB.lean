/-
  Plain: a window, what Place answers and leaves. Walks: load.Place, the reference's Place.
-/
import Derived.Test.YtipdmhppadapkaaGreatDoorDoA
import Derived.Test.YtipdmhppadapkaaGreatDoorBW
import Derived.Test.YtipdmhppadapkaaGreatDoorLdK
namespace Go.Proofs.YtipdmhppadapkaaGreatDoor
open Go.RowKit

structure Win where
  ipa : Nat
  pa : Nat
  size : Nat
  perm : Int
def Win.cells (v : Win) : Array Value := #[.int .u64 (v.ipa : Int), .int .u64 (v.pa : Int), .int .u64 (v.size : Int), .int .i64 v.perm]
structure Win.ok (v : Win) : Prop where
  ipa : v.ipa < 18446744073709551616
  pa : v.pa < 18446744073709551616
  size : v.size < 18446744073709551616
  perm : (Lit.int .i64 v.perm).wf = true
theorem infWin : (Tryz.prog.info? 57).map (·.size) = some 4 := by kernel_rfl
/-- what Place answers, and what it leaves -/
def plErr (ram : Sp) (v : Win) (n : Nat) : Int := if v.size < n then 261 else zErr ram ⟨v.pa, v.size⟩
def plM (ram : Sp) (m : Mm) (v : Win) (l : List UInt8) : Mm := if plErr ram v l.length = 0 then writeM (clrM m ⟨v.pa, v.size⟩) v.pa l else m
theorem z_ok {ram s : Sp} (h : zErr ram s = 0) : s.within ram = true := by
  unfold zErr at h; split at h
  · assumption
  · cases h
theorem within_iff {s t : Sp} : s.within t = true ↔ s.good = true ∧ t.good = true ∧ t.base ≤ s.base ∧ s.base + s.size ≤ t.base + t.size := by simp [Sp.within]
theorem place_ask {ram : Sp} {v : Win} {n : Nat} (h1 : ¬ v.size < n) (h2 : zErr ram ⟨v.pa, v.size⟩ = 0) (h5 : n ≤ 5000) : askErr ram v.pa n = 0 := by
  obtain ⟨g1, g2, g3, g4⟩ := within_iff.1 (z_ok h2)
  rw [Sp.good_iff] at g1
  simp only at g1 g3 g4
  rw [askErr, if_neg (by omega)]
  by_cases h0 : 0 < n
  · have : (Sp.mk v.pa n).within ram = true := within_iff.2 ⟨Sp.good_iff.2 ⟨h0, by simp only; omega⟩, g2, g3, by simp only; omega⟩
    rw [if_neg (by rw [this]; simp)]
  · rw [if_neg (by omega)]
/-- one byte behind Place -/
theorem place_at {ram : Sp} {m : Mm} {v : Win} {l : List UInt8} (h : plErr ram v l.length = 0) (d : Nat) (hd : d < v.size) : readV ram (plM ram m v l) (v.pa + d) 1 = [l[d]?.getD 0] := by
  have h1 : ¬ v.size < l.length ∧ zErr ram ⟨v.pa, v.size⟩ = 0 := by
    unfold plErr at h; split at h
    · cases h
    · exact ⟨by assumption, h⟩
  obtain ⟨g1, g2, g3, g4⟩ := within_iff.1 (z_ok h1.2)
  rw [Sp.good_iff] at g1
  simp only at g1 g3 g4
  have hw : (Sp.mk (v.pa + d) 1).within ram = true := within_iff.2 ⟨Sp.good_iff.2 ⟨by simp, by simp only; omega⟩, g2, by simp only; omega, by simp only; omega⟩
  have ha : askErr ram (v.pa + d) 1 = 0 := by rw [askErr, if_neg (by omega), if_neg (by rw [hw]; simp)]
  rw [readV, if_pos ha, plM, if_pos h]
  have e : ∀ M : Mm, readM M (v.pa + d) 1 = [M (v.pa + d)] := fun M => by simp [readM]
  rw [e]
  by_cases hl : d < l.length
  · rw [writeM_in _ _ _ _ hl]
  · rw [writeM_out _ _ _ _ (by omega), List.getElem?_eq_none (by omega)]
    have : (Sp.mk v.pa v.size).has (v.pa + d) = true := by simp only [Sp.has, decide_eq_true_eq]; omega
    rw [clrM, if_pos this]; rfl

theorem mafter_trans {w w1 w2 : World} {p : Nat} {ram : Sp} {m1 m2 : Mm} {F F1 : Nat → Prop} {N : Nat} (_h1 : PMem w1 p ram m1 F1 N) (hc : Chg F w w1) (hF : ∀ b, F b → F1 b) (hF1 : ∀ b, F1 b → F b ∨ w.heap.size ≤ b) {N2 : Nat} (h2 : MAfter w1 w2 p ram m2 F1 N2) : MAfter w w2 p ram m2 F N2 := by
  obtain ⟨F2, q1, q2, q3, q4⟩ := h2
  refine ⟨F2, q1, chg_tr hc q2 (fun b hb hF => (hF1 b hF).elim id (fun h => by omega)), fun b hb => q3 b (hF b hb), fun b hb => ?_⟩
  rcases q4 b hb with h5 | h5
  · exact hF1 b h5
  · exact .inr (Nat.le_trans hc.size h5)
theorem rd_stay {F : Nat → Prop} {w W : World} {B size n : Nat} {A : Option Addr} {xs : List Value} (h : Rd w B size A n xs) (hB : B ≤ w.heap.size) (c : Chg F w W) (hfar : 0 < n → ∀ y, A = some y → ¬ F y.block) : Rd W B size A n xs := by
  refine ⟨h.len, fun k v hv => ?_⟩
  obtain ⟨y, hy, h1, h2⟩ := h.cell k v hv
  have hk : k < xs.length := (List.getElem?_eq_some_iff.1 hv).1
  have hl := h.len
  have h0 : 0 < n := by
    rcases Nat.eq_zero_or_pos n with e | e
    · rw [e] at hl; omega
    · exact e
  refine ⟨y, hy, h1, ?_⟩
  rw [World.cell?_of_block (c.block _ (by rw [addr_block]; omega) (by rw [addr_block]; exact hfar h0 y hy))]
  exact h2

/-! load.Place -/
structure PlB (w0 : World) (p bm bw bp bs : Nat) (v : Win) (A : Option Addr) (n c : Nat) (W : World) : Prop where
  hm : Blk W bm 65 #[.pointer (some ⟨p, 0, none⟩)]
  hw : Blk W bw 57 v.cells
  hp : Blk W bp 22 #[.slice A n c]
  hs : Blk W bs 85 #[.func (.func 61) #[] #[.pointer (some ⟨bp, 0, none⟩), .pointer (some ⟨bw, 0, none⟩)], .func (.func 62) #[] #[.pointer (some ⟨bm, 0, none⟩), .pointer (some ⟨bw, 0, none⟩)], .func (.func 64) #[] #[.pointer (some ⟨bm, 0, none⟩), .pointer (some ⟨bw, 0, none⟩), .pointer (some ⟨bp, 0, none⟩)]]
theorem PlB.chg {w0 W W' : World} {p bm bw bp bs : Nat} {v : Win} {A : Option Addr} {n c : Nat} {Z : Nat → Prop} (h : PlB w0 p bm bw bp bs v A n c W) (k : Chg Z W W') (h1 : ¬ Z bm) (h2 : ¬ Z bw) (h3 : ¬ Z bp) (h4 : ¬ Z bs) : PlB w0 p bm bw bp bs v A n c W' :=
  ⟨h.hm.chg k h1, h.hw.chg k h2, h.hp.chg k h3, h.hs.chg k h4⟩
def plF : Nat → FuncId
  | 0 => 61
  | 1 => 62
  | _ => 64
def plC (bm bw bp : Nat) : Nat → Array Value
  | 0 => #[.pointer (some ⟨bp, 0, none⟩), .pointer (some ⟨bw, 0, none⟩)]
  | 1 => #[.pointer (some ⟨bm, 0, none⟩), .pointer (some ⟨bw, 0, none⟩)]
  | _ => #[.pointer (some ⟨bm, 0, none⟩), .pointer (some ⟨bw, 0, none⟩), .pointer (some ⟨bp, 0, none⟩)]
def plE (ram : Sp) (v : Win) (n : Nat) : Nat → Int
  | 0 => if v.size < n then 261 else 0
  | 1 => zErr ram ⟨v.pa, v.size⟩
  | _ => askErr ram v.pa n
theorem plE_first {ram : Sp} {v : Win} {n : Nat} (h5 : n ≤ 5000) : firstE (plE ram v n) 3 = plErr ram v n := by
  simp only [firstE, plErr]
  by_cases h1 : v.size < n
  · simp [plE, h1]
  · by_cases h2 : zErr ram ⟨v.pa, v.size⟩ = 0
    · simp [plE, h1, h2, place_ask h1 h2 h5]
    · simp [plE, h1, h2]
section
variable {w0 W : World} {p bm bw bp bs : Nat} {v : Win} {A : Option Addr} {n c : Nat}
set_option maxRecDepth 100000 in
theorem p1_any (h : PlB w0 p bm bw bp bs v A n c W) (_okv : v.ok) (h5 : n ≤ 5000) : Calls Tryz.prog 61 #[.pointer (some ⟨bp, 0, none⟩), .pointer (some ⟨bw, 0, none⟩)] W fun e W' => e = .returned (.int .i64 (if v.size < n then 261 else 0)) ∧ W' = W := by
  have c1 : W.cell? ⟨bp, 0, none⟩ = some (.slice A n c) := (h.hp.cell 0).trans rfl
  have c2 : W.cell? ⟨bw, 2, none⟩ = some (.int .u64 (v.size : Int)) := (h.hw.cell 2).trans rfl
  have hcv : IntKind.u64.wrap (n : Int) = (n : Int) := IntWalk.u64_in _ (by omega)
  have hu := unless_any (decide (n ≤ v.size)) 261 W
  have hE : (if decide (n ≤ v.size) = true then (0 : Int) else 261) = if v.size < n then 261 else 0 := by
    by_cases q : v.size < n
    · rw [if_neg (by simpa using q), if_pos q]
    · rw [if_pos (by simpa using q), if_neg q]
  rw [hE] at hu
  obtain ⟨X, hX⟩ : ∃ X, X = (if v.size < n then (261 : Int) else 0) := ⟨_, rfl⟩
  rw [← hX] at hu ⊢
  clear hE h hX
  go_enter Tryz.func61, Tryz.ntmps61
  go_wp2_with fail
  refine Calls.mono hu ?_
  rintro e W' ⟨rfl, rfl⟩
  go_wp2
  go_ret
  exact ⟨rfl, rfl⟩
set_option maxRecDepth 100000 in
theorem p2_any (h : PlB w0 p bm bw bp bs v A n c W) (okv : v.ok) (ram : Sp) (okr : ram.ok) (hr40 : ram.base + ram.size ≤ 1099511627776) (m : Mm) (F : Nat → Prop) (N : Nat) (hM : PMem W p ram m F N) :
    Calls Tryz.prog 62 #[.pointer (some ⟨bm, 0, none⟩), .pointer (some ⟨bw, 0, none⟩)] W fun e W' => e = .returned (.int .i64 (zErr ram ⟨v.pa, v.size⟩)) ∧ MAfter W W' p ram (zV ram m ⟨v.pa, v.size⟩) F N := by
  have c1 : W.cell? ⟨bm, 0, none⟩ = some (.pointer (some ⟨p, 0, none⟩)) := (h.hm.cell 0).trans rfl
  have c2 : W.cell? ⟨bw, 1, none⟩ = some (.int .u64 (v.pa : Int)) := (h.hw.cell 1).trans rfl
  have c3 : W.cell? ⟨bw, 2, none⟩ = some (.int .u64 (v.size : Int)) := (h.hw.cell 2).trans rfl
  have hz := mzero_any p ram okr hr40 m F N ⟨v.pa, v.size⟩ ⟨okv.pa, okv.size⟩ W hM
  obtain ⟨E, hE⟩ : ∃ E, E = zErr ram ⟨v.pa, v.size⟩ := ⟨_, rfl⟩
  obtain ⟨M2, hM2⟩ : ∃ M2, M2 = zV ram m ⟨v.pa, v.size⟩ := ⟨_, rfl⟩
  rw [← hE, ← hM2] at hz ⊢
  clear h hE hM2
  go_enter Tryz.func62, Tryz.ntmps62
  go_wp2_with ((with_reducible refine at_build 61 ?_); refine wpList_buildV _ rfl #[(0, .int .u64 (v.pa : Int)), (1, .int .u64 (v.size : Int))] rfl (by simp [Act.eval]) (run_sp _ _ _) ?_)
  refine Calls.mono hz ?_
  rintro e W' ⟨rfl, hA⟩
  go_wp2
  go_ret
  exact ⟨rfl, hA⟩
set_option maxRecDepth 100000 in
theorem p3_any (h : PlB w0 p bm bw bp bs v A n c W) (okv : v.ok) (ram : Sp) (okr : ram.ok) (hr40 : ram.base + ram.size ≤ 1099511627776) (m : Mm) (F : Nat → Prop) (N : Nat) (l : List UInt8) (hl : n = l.length) (hnc : n ≤ c) (hc : c ≤ 9223372036854775807)
    (hN : N + n < maxLen) (hR : Rd W W.heap.size 1 A n (bcells l)) (hfar : 0 < n → ∀ x, A = some x → ¬ F x.block) (hM : PMem W p ram m F N) :
    Calls Tryz.prog 64 #[.pointer (some ⟨bm, 0, none⟩), .pointer (some ⟨bw, 0, none⟩), .pointer (some ⟨bp, 0, none⟩)] W fun e W' => e = .returned (.int .i64 (askErr ram v.pa n)) ∧ MAfter W W' p ram (writeV ram m v.pa l) F (N + n) := by
  have c1 : W.cell? ⟨bm, 0, none⟩ = some (.pointer (some ⟨p, 0, none⟩)) := (h.hm.cell 0).trans rfl
  have c2 : W.cell? ⟨bw, 1, none⟩ = some (.int .u64 (v.pa : Int)) := (h.hw.cell 1).trans rfl
  have c3 : W.cell? ⟨bp, 0, none⟩ = some (.slice A n c) := (h.hp.cell 0).trans rfl
  have hz := mwrite_any p ram okr hr40 m F N v.pa A n c l okv.pa hl hnc hc hN W hR hfar hM
  obtain ⟨E, hE⟩ : ∃ E, E = askErr ram v.pa n := ⟨_, rfl⟩
  obtain ⟨M2, hM2⟩ : ∃ M2, M2 = writeV ram m v.pa l := ⟨_, rfl⟩
  rw [← hE, ← hM2] at hz ⊢
  clear h hE hM2 hR hfar hl
  go_enter Tryz.func64, Tryz.ntmps64
  go_wp2_with fail
  refine Calls.mono hz ?_
  rintro e W' ⟨rfl, hA⟩
  go_wp2
  go_ret
  exact ⟨rfl, hA⟩
theorem pl_fn (k : Nat) (h : k < 3) : ∃ fn c, Tryz.prog.funcs[plF k]? = some fn ∧ fn.body = some c ∧ (fn.name == "runtime.NumGoroutine") = false := by
  match k, h with
  | 0, _ => exact ⟨_, _, Tryz.func61, rfl, by kernel_rfl⟩
  | 1, _ => exact ⟨_, _, Tryz.func62, rfl, by kernel_rfl⟩
  | 2, _ => exact ⟨_, _, Tryz.func64, rfl, by kernel_rfl⟩
end
/-- the checks of Place, one behind the other -/
theorem plchecks_any (p bm bw bp bs : Nat) (v : Win) (okv : v.ok) (ram : Sp) (okr : ram.ok) (hr40 : ram.base + ram.size ≤ 1099511627776) (m : Mm) (F : Nat → Prop) (N : Nat) (A : Option Addr) (n c : Nat) (l : List UInt8) (hl : n = l.length) (hnc : n ≤ c) (hc : c ≤ 9223372036854775807) (h5 : n ≤ 5000)
    (hN : N + n < maxLen) (w : World) (h : PlB w p bm bw bp bs v A n c w) (hR : Rd w w.heap.size 1 A n (bcells l)) (hfar : 0 < n → ∀ x, A = some x → ¬ F x.block) (hM : PMem w p ram m F N)
    (h1 : ¬ F bm) (h2 : ¬ F bw) (h3 : ¬ F bp) (h4 : ¬ F bs) :
    Calls Tryz.prog 27 #[.slice (some ⟨bs, 0, none⟩) 3 3] w fun e w' => e = .returned (.int .i64 (plErr ram v n)) ∧ MAfter w w' p ram (plM ram m v l) F (N + n) := by
  have hcells : ∀ W, PlB w p bm bw bp bs v A n c W → ∀ j, j < 3 → W.cell? ⟨bs, j, none⟩ = some (.func (.func (plF j)) #[] (plC bm bw bp j)) := by
    intro W h j hj
    rw [h.hs.cell]
    match j, hj with
    | 0, _ => rfl
    | 1, _ => rfl
    | 2, _ => rfl
  have hst : ∀ {W W' : World} {F1 : Nat → Prop}, PlB w p bm bw bp bs v A n c W → Chg F1 W W' → (∀ b, F1 b → F b ∨ w.heap.size ≤ b) → PlB w p bm bw bp bs v A n c W' := fun {W W' F1} hb hc hF => by
    refine hb.chg hc (fun e => ?_) (fun e => ?_) (fun e => ?_) (fun e => ?_)
    · exact (hF _ e).elim h1 (fun q => by have := h.hm.lt; omega)
    · exact (hF _ e).elim h2 (fun q => by have := h.hw.lt; omega)
    · exact (hF _ e).elim h3 (fun q => by have := h.hp.lt; omega)
    · exact (hF _ e).elim h4 (fun q => by have := h.hs.lt; omega)
  have h0 : MAfter w w p ram m F N := MAfter.same (Below.refl _ _) hM
  by_cases e0 : v.size < n
  · have hv : plErr ram v n = 261 := by rw [plErr, if_pos e0]
    have hm : plM ram m v l = m := by rw [plM, if_neg (by rw [← hl, hv]; decide)]
    have hf := plE_first (ram := ram) (v := v) h5
    have := asked_any 3 (by omega) bs plF (plC bm bw bp) (plE ram v n) (fun k W => k = 0 ∧ PlB w p bm bw bp bs v A n c W ∧ MAfter w W p ram m F N) (fun W => MAfter w W p ram m F N) w pl_fn (fun k W h => hcells W h.2.1) (fun k W h => h.2.2) (by
      rintro k hk W ⟨rfl, hb, hA⟩ _
      refine (p1_any hb okv h5).mono ?_
      rintro e W' ⟨rfl, rfl⟩
      exact ⟨rfl, fun h => by simp [plE, e0] at h, hA⟩) ⟨rfl, h, h0⟩
    rw [hf, hv] at this
    rw [hv, hm]
    exact this.mono fun e w' ⟨q1, _, q2⟩ => ⟨q1, q2.more (by omega)⟩
  · by_cases e1 : zErr ram ⟨v.pa, v.size⟩ = 0
    · have hv : plErr ram v n = 0 := by rw [plErr, if_neg e0]; exact e1
      have ha := place_ask e0 e1 h5
      have hm : plM ram m v l = writeV ram (zV ram m ⟨v.pa, v.size⟩) v.pa l := by
        rw [plM, if_pos (by rw [← hl, hv]), writeV, if_pos (by rw [← hl]; exact ha), zV, if_pos (z_ok e1)]
      have hf := plE_first (ram := ram) (v := v) h5
      have := asked_any 3 (by omega) bs plF (plC bm bw bp) (plE ram v n) (fun k W => PlB w p bm bw bp bs v A n c W ∧ (k ≤ 1 → MAfter w W p ram m F N) ∧ (k = 2 → MAfter w W p ram (zV ram m ⟨v.pa, v.size⟩) F N) ∧ (3 ≤ k → MAfter w W p ram (plM ram m v l) F (N + n))) (fun _ => True) w pl_fn (fun k W h => hcells W h.1) (fun _ _ _ => trivial) (by
        rintro k hk W ⟨hb, q1, q2, q3⟩ _
        match k, hk with
        | 0, _ =>
          refine (p1_any hb okv h5).mono ?_
          rintro e W' ⟨rfl, rfl⟩
          exact ⟨rfl, fun _ => ⟨hb, fun _ => q1 (by omega), fun h => by omega, fun h => by omega⟩, trivial⟩
        | 1, _ =>
          obtain ⟨F1, r1, r2, r3, r4⟩ := q1 (by omega)
          refine (p2_any hb okv ram okr hr40 m F1 N r1).mono ?_
          rintro e W' ⟨rfl, hA⟩
          have hA2 := mafter_trans r1 r2 r3 r4 hA
          obtain ⟨F2, s1, s2, s3, s4⟩ := hA
          exact ⟨rfl, fun _ => ⟨hst hb s2 r4, fun h => by omega, fun _ => hA2, fun h => by omega⟩, trivial⟩
        | 2, _ =>
          obtain ⟨F1, r1, r2, r3, r4⟩ := q2 rfl
          have hRW := (rd_stay hR (Nat.le_refl _) r2 hfar).more r2.size
          have hfar2 : 0 < n → ∀ x, A = some x → ¬ F1 x.block := fun hn x hx hF => by
            rcases r4 _ hF with h6 | h6
            · exact hfar hn x hx h6
            · obtain ⟨b, off, e, h7, _⟩ := hR.range (by omega)
              rw [hx] at e; cases e; simp only at h6; omega
          refine (p3_any hb okv ram okr hr40 _ F1 N l hl hnc hc hN hRW hfar2 r1).mono ?_
          rintro e W' ⟨rfl, hA⟩
          have hA2 := mafter_trans r1 r2 r3 r4 hA
          obtain ⟨F2, s1, s2, s3, s4⟩ := hA
          exact ⟨rfl, fun _ => ⟨hst hb s2 r4, fun h => by omega, fun h => by omega, fun _ => by rw [hm]; exact hA2⟩, trivial⟩) ⟨h, fun _ => h0, fun h => by omega, fun h => by omega⟩
      rw [hf, hv] at this
      rw [hv]
      exact this.mono fun e w' ⟨q1, q2, _⟩ => ⟨q1, (q2 rfl).2.2.2 (by omega)⟩
    · have hv : plErr ram v n = zErr ram ⟨v.pa, v.size⟩ := by rw [plErr, if_neg e0]
      have hm : plM ram m v l = m := by rw [plM, if_neg (by rw [← hl, hv]; exact e1)]
      have hzm : zV ram m ⟨v.pa, v.size⟩ = m := by
        have : ¬ (Sp.mk v.pa v.size).within ram = true := fun h => e1 (by rw [zErr, if_pos h])
        rw [zV, if_neg this]
      have hf := plE_first (ram := ram) (v := v) h5
      have := asked_any 3 (by omega) bs plF (plC bm bw bp) (plE ram v n) (fun k W => k ≤ 1 ∧ PlB w p bm bw bp bs v A n c W ∧ MAfter w W p ram m F N) (fun W => MAfter w W p ram m F N) w pl_fn (fun k W h => hcells W h.2.1) (fun k W h => h.2.2) (by
        rintro k hk W ⟨hk1, hb, hA⟩ _
        match k, hk1 with
        | 0, _ =>
          refine (p1_any hb okv h5).mono ?_
          rintro e W' ⟨rfl, rfl⟩
          exact ⟨rfl, fun _ => ⟨by omega, hb, hA⟩, hA⟩
        | 1, _ =>
          obtain ⟨F1, r1, r2, r3, r4⟩ := hA
          refine (p2_any hb okv ram okr hr40 m F1 N r1).mono ?_
          rintro e W' ⟨rfl, hA⟩
          rw [hzm] at hA
          exact ⟨rfl, fun h => absurd h e1, mafter_trans r1 r2 r3 r4 hA⟩) ⟨by omega, h, h0⟩
      rw [hf, hv] at this
      rw [hv, hm]
      exact this.mono fun e w' ⟨q1, _, q2⟩ => ⟨q1, q2.more (by omega)⟩

theorem run_pls (w : World) (bm bw bp : Nat) : (Instr.buildSlice 143 3 #[(0, .func (.func (plF 0)) #[] (plC bm bw bp 0)), (1, .func (.func (plF 1)) #[] (plC bm bw bp 1)), (2, .func (.func (plF 2)) #[] (plC bm bw bp 2))]).run Tryz.prog w =
    .ok (.slice (some ⟨w.heap.size, 0, none⟩) 3 3) (w.alloc (.cells #[.func (.func (plF 0)) #[] (plC bm bw bp 0), .func (.func (plF 1)) #[] (plC bm bw bp 1), .func (.func (plF 2)) #[] (plC bm bw bp 2)] 85)) := by
  kernel_rfl
set_option maxRecDepth 100000 in
set_option maxHeartbeats 2000000 in
theorem mplace_any (p : Nat) (ram : Sp) (okr : ram.ok) (hr40 : ram.base + ram.size ≤ 1099511627776) (m : Mm) (F : Nat → Prop) (N : Nat) (v : Win) (okv : v.ok) (A : Option Addr) (n c : Nat) (l : List UInt8) (hl : n = l.length) (hnc : n ≤ c) (hc : c ≤ 9223372036854775807) (h5 : n ≤ 5000) (hN : N + n < maxLen)
    (w : World) (hR : Rd w w.heap.size 1 A n (bcells l)) (hfar : 0 < n → ∀ x, A = some x → ¬ F x.block) (hM : PMem w p ram m F N) :
    Calls Tryz.prog 20 #[.pointer (some ⟨p, 0, none⟩), .agg v.cells, .slice A n c] w fun e w' => e = .returned (.int .i64 (plErr ram v n)) ∧ MAfter w w' p ram (plM ram m v l) F (N + n) := by
  have b1 := ((((Blk.new w 65 #[.pointer (some ⟨p, 0, none⟩)]).alloc (.cells v.cells 57)).alloc (.cells #[.slice A n c] 22)).alloc (.cells #[.func (.func (plF 0)) #[] (plC w.heap.size (w.heap.size + 1) (w.heap.size + 1 + 1) 0), .func (.func (plF 1)) #[] (plC w.heap.size (w.heap.size + 1) (w.heap.size + 1 + 1) 1), .func (.func (plF 2)) #[] (plC w.heap.size (w.heap.size + 1) (w.heap.size + 1 + 1) 2)] 85))
  have b2 := (((Blk.new (w.alloc (.cells #[.pointer (some ⟨p, 0, none⟩)] 65)) 57 v.cells).alloc (.cells #[.slice A n c] 22)).alloc (.cells #[.func (.func (plF 0)) #[] (plC w.heap.size (w.heap.size + 1) (w.heap.size + 1 + 1) 0), .func (.func (plF 1)) #[] (plC w.heap.size (w.heap.size + 1) (w.heap.size + 1 + 1) 1), .func (.func (plF 2)) #[] (plC w.heap.size (w.heap.size + 1) (w.heap.size + 1 + 1) 2)] 85))
  have b3 := ((Blk.new ((w.alloc (.cells #[.pointer (some ⟨p, 0, none⟩)] 65)).alloc (.cells v.cells 57)) 22 #[.slice A n c]).alloc (.cells #[.func (.func (plF 0)) #[] (plC w.heap.size (w.heap.size + 1) (w.heap.size + 1 + 1) 0), .func (.func (plF 1)) #[] (plC w.heap.size (w.heap.size + 1) (w.heap.size + 1 + 1) 1), .func (.func (plF 2)) #[] (plC w.heap.size (w.heap.size + 1) (w.heap.size + 1 + 1) 2)] 85))
  have b4 := Blk.new (((w.alloc (.cells #[.pointer (some ⟨p, 0, none⟩)] 65)).alloc (.cells v.cells 57)).alloc (.cells #[.slice A n c] 22)) 85 #[.func (.func (plF 0)) #[] (plC w.heap.size (w.heap.size + 1) (w.heap.size + 1 + 1) 0), .func (.func (plF 1)) #[] (plC w.heap.size (w.heap.size + 1) (w.heap.size + 1 + 1) 1), .func (.func (plF 2)) #[] (plC w.heap.size (w.heap.size + 1) (w.heap.size + 1 + 1) 2)]
  rw [World.size_alloc] at b2
  rw [World.size_alloc, World.size_alloc] at b3
  rw [World.size_alloc, World.size_alloc, World.size_alloc] at b4
  have B1 : Below w.heap.size w ((((w.alloc (.cells #[.pointer (some ⟨p, 0, none⟩)] 65)).alloc (.cells v.cells 57)).alloc (.cells #[.slice A n c] 22)).alloc (.cells #[.func (.func (plF 0)) #[] (plC w.heap.size (w.heap.size + 1) (w.heap.size + 1 + 1) 0), .func (.func (plF 1)) #[] (plC w.heap.size (w.heap.size + 1) (w.heap.size + 1 + 1) 1), .func (.func (plF 2)) #[] (plC w.heap.size (w.heap.size + 1) (w.heap.size + 1 + 1) 2)] 85)) := ((((Below.refl _ _).alloc (Nat.le_refl _) _).alloc (by simp) _).alloc (by simp; omega) _).alloc (by simp; omega) _
  have hFl := hM.flt
  have hM1 := hM.below B1 (Nat.le_refl _)
  have hck := plchecks_any p w.heap.size (w.heap.size + 1) (w.heap.size + 1 + 1) (w.heap.size + 1 + 1 + 1) v okv ram okr hr40 m F N A n c l hl hnc hc h5 hN _ ⟨b1, b2, b3, b4⟩ ((hR.below B1).more B1.size) hfar hM1
    (fun h => by have := hFl _ h; omega) (fun h => by have := hFl _ h; omega) (fun h => by have := hFl _ h; omega) (fun h => by have := hFl _ h; omega)
  obtain ⟨E, hE⟩ : ∃ E, E = plErr ram v n := ⟨_, rfl⟩
  obtain ⟨M2, hM2⟩ : ∃ M2, M2 = plM ram m v l := ⟨_, rfl⟩
  rw [← hE, ← hM2] at hck ⊢
  clear hE hM2 b1 b2 b3 b4 hM1 hfar hR hFl hl
  go_enter Tryz.func20, Tryz.ntmps20
  go_wp2_with ((with_reducible refine at_buildSlice 143 ?_); refine wpList_runV rfl (Flow.reg_buildSlice #[(0, .func (.func (plF 0)) #[] (plC w.heap.size (w.heap.size + 1) (w.heap.size + 1 + 1) 0)), (1, .func (.func (plF 1)) #[] (plC w.heap.size (w.heap.size + 1) (w.heap.size + 1 + 1) 1)), (2, .func (.func (plF 2)) #[] (plC w.heap.size (w.heap.size + 1) (w.heap.size + 1 + 1) 2))] rfl (by simp [Act.eval, plF, plC]) (run_pls _ _ _ _)) ?_)
  refine Calls.mono hck ?_
  rintro e W' ⟨rfl, hA⟩
  go_wp2
  go_ret
  exact ⟨rfl, hA.from B1⟩
set_option maxRecDepth 100000 in
set_option maxHeartbeats 2000000 in
theorem rplace_any (r : Nat) (ram : Sp) (okr : ram.ok) (hr40 : ram.base + ram.size ≤ 1099511627776) (m : Mm) (F : Nat → Prop) (N : Nat) (v : Win) (okv : v.ok) (A : Option Addr) (n c : Nat) (l : List UInt8) (hl : n = l.length) (hnc : n ≤ c) (hc : c ≤ 9223372036854775807) (h5 : n ≤ 5000) (hN : N + n ≤ 1000000)
    (w : World) (hR : Rd w w.heap.size 1 A n (bcells l)) (hfar : 0 < n → ∀ x, A = some x → ¬ F x.block) (hM : RMem w r ram m F N) :
    Calls Tryz.prog 21 #[.pointer (some ⟨r, 0, none⟩), .agg v.cells, .slice A n c] w fun e w' => e = .returned (.int .i64 (plErr ram v n)) ∧ RAfter w w' r ram (plM ram m v l) F (N + n) := by
  have hb := Blk.new w 57 v.cells
  have B1 : Below w.heap.size w (w.alloc (.cells v.cells 57)) := (Below.refl _ _).alloc (Nat.le_refl _) _
  have hcv : IntKind.u64.wrap (n : Int) = (n : Int) := IntWalk.u64_in _ (by omega)
  have hM1 := hM.below B1 (Nat.le_refl _)
  have hR1 := hR.below B1
  have HL := Lib.hid hl
  have hbF : ¬ F w.heap.size := fun h => by have := hM.flt _ h; omega
  have hflt := hM.flt
  have hs1 := B1.size
  have c1 : (w.alloc (.cells v.cells 57)).cell? ⟨w.heap.size, 1, none⟩ = some (.int .u64 (v.pa : Int)) := (hb.cell 1).trans rfl
  have c2 : (w.alloc (.cells v.cells 57)).cell? ⟨w.heap.size, 2, none⟩ = some (.int .u64 (v.size : Int)) := (hb.cell 2).trans rfl
  by_cases e0 : v.size < n
  · have e0' : (v.size : Int) < (n : Int) := by omega
    have hv : Hid (plErr ram v n = 261) := Lib.hid (by rw [plErr, if_pos e0])
    have hm : Hid (plM ram m v l = m) := Lib.hid (by rw [plM, if_neg (by rw [← hl, hv.out]; decide)])
    clear hl
    go_enter Tryz.func21, Tryz.ntmps21
    go_wp2
    go_ret
    rw [hm.out]
    exact ⟨ret_int hv.out.symm, (RAfter.same B1 hM).more (by omega)⟩
  · have e0' : ¬ (v.size : Int) < (n : Int) := by omega
    have hz := rzero_any r ram okr m F N (by omega) ⟨v.pa, v.size⟩ ⟨okv.pa, okv.size⟩ _ hM1
    obtain ⟨E, hE⟩ : ∃ E, E = zErr ram ⟨v.pa, v.size⟩ := ⟨_, rfl⟩
    have hv : Hid (plErr ram v n = E) := Lib.hid (by rw [plErr, if_neg e0, hE])
    rw [← hE] at hz
    have hwi : Hid (E = 0 → zV ram m ⟨v.pa, v.size⟩ = clrM m ⟨v.pa, v.size⟩) := Lib.hid (fun h => by rw [zV, if_pos (z_ok (by rw [← hE]; exact h))])
    have hwo : Hid (E ≠ 0 → zV ram m ⟨v.pa, v.size⟩ = m) := Lib.hid (fun h => by
      have : ¬ (Sp.mk v.pa v.size).within ram = true := fun h2 => h (by rw [hE, zErr, if_pos h2])
      rw [zV, if_neg this])
    have hask : Hid (E = 0 → askErr ram v.pa n = 0) := Lib.hid (fun h => place_ask e0 (by rw [← hE]; exact h) h5)
    obtain ⟨M1, hM1⟩ : ∃ M1, M1 = zV ram m ⟨v.pa, v.size⟩ := ⟨_, rfl⟩
    rw [← hM1] at hz hwi hwo
    clear hE hM1 hl
    go_enter Tryz.func21, Tryz.ntmps21
    go_wp2_with ((with_reducible refine at_build 61 ?_); refine wpList_buildV _ rfl #[(0, .int .u64 (v.pa : Int)), (1, .int .u64 (v.size : Int))] rfl (by simp [Act.eval]) (run_sp _ _ _) ?_)
    generalize w.alloc (.cells v.cells 57) = W1 at *
    refine Calls.mono hz ?_
    rintro e W2 ⟨rfl, hA⟩
    have hA2 := hA.from B1
    obtain ⟨F2, q1, q2, q3, q4⟩ := hA
    by_cases h0 : E = 0
    · have hm : Hid (plM ram m v l = writeM M1 v.pa l) := Lib.hid (by rw [plM, if_pos (by rw [← HL.out, hv.out, h0]), hwi.out h0])
      have ha := hask.out h0
      have hb2 := hb.chg q2 hbF
      have hR2 := (rd_stay (hR1.more hs1) (Nat.le_refl _) q2 hfar).more q2.size
      have hfar2 : 0 < n → ∀ x, A = some x → ¬ F2 x.block := fun hn x hx hF => by
        rcases q4 _ hF with h6 | h6
        · exact hfar hn x hx h6
        · obtain ⟨b, off, e, h7, _⟩ := hR.range (by omega)
          rw [hx] at e; cases e; simp only at h6; omega
      have hw := rwrite_any r ram okr hr40 M1 F2 N v.pa A n c l okv.pa HL.out hnc hc hN W2 hR2 hfar2 q1
      rw [ha] at hw
      have hwv : writeV ram M1 v.pa l = writeM M1 v.pa l := by rw [writeV, if_pos (by rw [← HL.out]; exact ha)]
      rw [hwv] at hw
      have c3 : W2.cell? ⟨w.heap.size, 1, none⟩ = some (.int .u64 (v.pa : Int)) := (hb2.cell 1).trans rfl
      subst h0
      clear hb hR hR1 hwi hwo hask hwv ha c1 c2 hA2 hz hM hfar hfar2
      go_wp2_with fail
      refine Calls.mono hw ?_
      rintro e W3 ⟨rfl, hA3⟩
      clear hw hb2 c3
      go_wp2
      go_ret
      rw [hm.out]
      obtain ⟨F3, s1, s2, s3, s4⟩ := hA3
      refine ⟨ret_int hv.out.symm, F3, s1, chg_tr (Chg.of_ext B1) (chg_tr q2 s2 (fun b hb hF => (q4 b hF).elim id (fun h => by omega))) (fun _ _ h => h), fun b hb => s3 b (q3 b hb), fun b hb => ?_⟩
      rcases s4 b hb with h6 | h6
      · exact (q4 b h6).imp id (fun h => by omega)
      · exact .inr (by have := q2.size; omega)
    · have hne : (E != 0) = true := by simpa using h0
      have hm : Hid (plM ram m v l = m) := Lib.hid (by rw [plM, if_neg (by rw [← HL.out, hv.out]; exact h0)])
      have e2 := hwo.out h0
      subst e2
      clear hb c1 c2 hwo hwi hask hz h0
      go_wp2
      go_ret
      rw [hm.out]
      exact ⟨ret_int hv.out.symm, hA2.more (by omega)⟩
end Go.Proofs.YtipdmhppadapkaaGreatDoor
