/-
  Plain: memory as bytes at addresses. The program's Mem in memory: a map of pages.
-/
import Derived.Test.YtjfmgoickokbjaaMaE
import Derived.Maps.RangeWalk
namespace Go.Proofs.Ytjfmgoickokbjaa
open Go.RowKit
open Go.Maps (Keyed)

abbrev Mm := Nat → UInt8
def pageOf (m : Mm) (k : Nat) : List UInt8 := (List.range 4096).map fun i => m (4096 * k + i)
theorem pageOf_length (m : Mm) (k : Nat) : (pageOf m k).length = 4096 := by simp [pageOf]
theorem pageOf_get (m : Mm) (k i : Nat) (h : i < 4096) : (pageOf m k)[i]? = some (m (4096 * k + i)) := by simp [pageOf, h]
def readM (m : Mm) (a n : Nat) : List UInt8 := (List.range n).map fun i => m (a + i)
theorem readM_length (m : Mm) (a n : Nat) : (readM m a n).length = n := by simp [readM]
theorem readM_get (m : Mm) (a n i : Nat) (h : i < n) : (readM m a n)[i]? = some (m (a + i)) := by simp [readM, h]
def writeM (m : Mm) (a : Nat) (l : List UInt8) : Mm := fun x => if a ≤ x ∧ x < a + l.length then l[x - a]?.getD 0 else m x
theorem writeM_nil (m : Mm) (a : Nat) : writeM m a [] = m := by
  funext x; unfold writeM; rw [if_neg (by simp only [List.length_nil]; omega)]
theorem writeM_in (m : Mm) (a : Nat) (l : List UInt8) (i : Nat) (h : i < l.length) : writeM m a l (a + i) = l[i]?.getD 0 := by
  unfold writeM; rw [if_pos ⟨by omega, by omega⟩, Nat.add_sub_cancel_left]
theorem writeM_out (m : Mm) (a : Nat) (l : List UInt8) (x : Nat) (h : x < a ∨ a + l.length ≤ x) : writeM m a l x = m x := by
  unfold writeM; rw [if_neg (by omega)]
theorem writeM_append (m : Mm) (a : Nat) (l l2 : List UInt8) : writeM (writeM m a l) (a + l.length) l2 = writeM m a (l ++ l2) := by
  funext x
  simp only [writeM, List.length_append]
  by_cases h1 : a ≤ x
  · by_cases h2 : x < a + l.length
    · rw [if_neg (by omega), if_pos ⟨h1, h2⟩, if_pos ⟨h1, by omega⟩, List.getElem?_append_left (by omega)]
    · by_cases h3 : x < a + (l.length + l2.length)
      · rw [if_pos ⟨by omega, by omega⟩, if_pos ⟨h1, h3⟩, List.getElem?_append_right (by omega)]
        congr 2; omega
      · rw [if_neg (by omega), if_neg (by omega), if_neg (by omega)]
  · rw [if_neg (by omega), if_neg (by omega), if_neg (by omega)]
/-- one page of the memory behind a write that stays within it -/
theorem pageOf_write (m : Mm) (k o : Nat) (l : List UInt8) (h : o + l.length ≤ 4096) : pageOf (writeM m (4096 * k + o) l) k = (pageOf m k).take o ++ l ++ (pageOf m k).drop (o + l.length) := by
  apply List.ext_getElem?
  intro i
  by_cases hi : i < 4096
  · rw [pageOf_get _ _ _ hi, List.append_assoc]
    by_cases h1 : i < o
    · rw [List.getElem?_append_left (by rw [List.length_take, pageOf_length]; omega), List.getElem?_take, if_pos h1, pageOf_get _ _ _ hi, writeM_out _ _ _ _ (by omega)]
    · rw [List.getElem?_append_right (by rw [List.length_take, pageOf_length]; omega)]
      have e1 : (List.take o (pageOf m k)).length = o := by rw [List.length_take, pageOf_length]; omega
      rw [e1]
      by_cases h2 : i < o + l.length
      · rw [List.getElem?_append_left (by omega)]
        have := writeM_in m (4096 * k + o) l (i - o) (by omega)
        rw [show 4096 * k + o + (i - o) = 4096 * k + i by omega] at this
        rw [this, List.getElem?_eq_getElem (by omega)]; rfl
      · rw [List.getElem?_append_right (by omega), List.getElem?_drop, show o + l.length + (i - o - l.length) = i by omega, pageOf_get _ _ _ hi, writeM_out _ _ _ _ (by omega)]
  · rw [List.getElem?_eq_none (by rw [pageOf_length]; omega), List.getElem?_eq_none (by simp [pageOf_length]; omega)]
theorem pageOf_other (m : Mm) (k k2 o : Nat) (l : List UInt8) (h : o + l.length ≤ 4096) (hk : k2 ≠ k) : pageOf (writeM m (4096 * k + o) l) k2 = pageOf m k2 := by
  apply List.ext_getElem?
  intro i
  by_cases hi : i < 4096
  · rw [pageOf_get _ _ _ hi, pageOf_get _ _ _ hi, writeM_out]
    rcases Nat.lt_or_gt_of_ne hk with h1 | h1 <;> omega
  · rw [List.getElem?_eq_none (by rw [pageOf_length]; omega), List.getElem?_eq_none (by rw [pageOf_length]; omega)]
theorem pageOf_zero (m : Mm) (k : Nat) (h : ∀ i, i < 4096 → m (4096 * k + i) = 0) : pageOf m k = List.replicate 4096 0 := by
  apply List.ext_getElem?
  intro i
  by_cases hi : i < 4096
  · rw [pageOf_get _ _ _ hi, h i hi, List.getElem?_replicate, if_pos hi]
  · rw [List.getElem?_eq_none (by rw [pageOf_length]; omega), List.getElem?_eq_none (by rw [List.length_replicate]; omega)]

/-! the map's elements: a page's block, told as a number -/
def pgV (g : Nat) : Value := .slice (some ⟨g, 0, none⟩) 4096 4096
open Classical in
noncomputable def pgE (v : Value) : Option (DataW Unit × List MemPlace) := if h : ∃ g, v = pgV g then some (.lit (.int .i64 (h.choose : Int)), []) else if v = .slice none 0 0 then some (.nil, []) else none
theorem pgE_mk (g : Nat) : pgE (pgV g) = some (.lit (.int .i64 (g : Int)), []) := by
  have h : ∃ g', pgV g = pgV g' := ⟨g, rfl⟩
  unfold pgE
  rw [dif_pos h]
  have hs := Classical.choose_spec h
  obtain ⟨x, hx⟩ : ∃ x, x = Classical.choose h := ⟨_, rfl⟩
  rw [← hx] at hs
  have e : Classical.choose h = g := by
    rw [← hx]
    simp only [pgV, Value.slice.injEq, Option.some.injEq, Addr.mk.injEq, and_true] at hs
    exact hs.symm
  exact congrArg (fun x : Nat => some (DataW.lit (Lit.int .i64 (x : Int)), [])) e
theorem pgE_nil : pgE (.slice none 0 0) = some (.nil, []) := by
  unfold pgE
  rw [dif_neg (by rintro ⟨g, h⟩; cases h), if_pos rfl]
theorem pgE_inv {v : Value} {y : DataW Unit × List MemPlace} (h : pgE v = some y) : (∃ g : Nat, v = pgV g ∧ y = (.lit (.int .i64 (g : Int)), [])) ∨ (v = .slice none 0 0 ∧ y = (.nil, [])) := by
  unfold pgE at h
  split at h
  · rename_i hx
    left
    refine ⟨hx.choose, hx.choose_spec, (Option.some.inj h).symm⟩
  · split at h
    · rename_i hx; right; exact ⟨hx, (Option.some.inj h).symm⟩
    · cases h
theorem keyU : Keyed Try.prog 22 := Maps.int_keyed Try.underlying22
theorem keyU_mk (k : Nat) (hk : k < 18446744073709551616) : keyOf Try.prog 22 (.int .u64 (k : Int)) = some (.int .u64 (k : Int)) :=
  Maps.keyOf_int_mk Try.underlying22 (by simp [Lit.wf, IntKind.min, IntKind.max, IntKind.bits, IntKind.signed]; omega)
theorem zeroPg (w : World) : (zeroValue 26).run Try.prog w = .ok (.slice none 0 0) w := by kernel_rfl
def pgAt (pg : Nat → Option Nat) (k : Nat) : DataW Unit := match pg k with | none => .nil | some g => .lit (.int .i64 (g : Int))

/-- the program's Mem at block p: its memory m, its blocks F, at most N pages -/
structure PM (w : World) (p : Nat) (ram : Sp) (m : Mm) (F : Nat → Prop) (N : Nat) (bm : Nat) (D : DataW Unit) (pg : Nat → Option Nat) : Prop where
  blk : Blk w p 83 #[.int .u64 (ram.base : Int), .int .u64 (ram.size : Int), .map (some bm)]
  own : w.ownsMap Try.prog 22 pgE bm N D
  at_ : ∀ k : Nat, k < 18446744073709551616 → D.atKey (.int .u64 (k : Int)) .nil = pgAt pg k
  rows : ∀ k g, pg k = some g → Blk w g 5 (bcells (pageOf m k)).toArray ∧ F g ∧ k < 18446744073709551616
  zero : ∀ k, pg k = none → ∀ i, i < 4096 → m (4096 * k + i) = 0
  inj : ∀ k k' g, pg k = some g → pg k' = some g → k = k'
  fp : F p
  fm : F bm
  flt : ∀ b, F b → b < w.heap.size
def PMem (w : World) (p : Nat) (ram : Sp) (m : Mm) (F : Nat → Prop) (N : Nat) : Prop := ∃ bm D pg, PM w p ram m F N bm D pg

namespace PM
variable {w w' : World} {p : Nat} {ram : Sp} {m : Mm} {F : Nat → Prop} {N bm : Nat} {D : DataW Unit} {pg : Nat → Option Nat}
theorem keep (h : PM w p ram m F N bm D pg) (hs : w.heap.size ≤ w'.heap.size) (hb : ∀ b, F b → w'.heap[b]? = w.heap[b]?) : PM w' p ram m F N bm D pg := by
  obtain ⟨es, clock, h1, h2, h3, h4⟩ := h.own
  exact ⟨(hb p h.fp).trans h.blk, ⟨es, clock, (hb bm h.fm).trans h1, h2, h3, h4⟩, h.at_, fun k g hk => ⟨(hb g (h.rows k g hk).2.1).trans (h.rows k g hk).1, (h.rows k g hk).2⟩, h.zero, h.inj, h.fp, h.fm, fun b hF => Nat.lt_of_lt_of_le (h.flt b hF) hs⟩
theorem chg (h : PM w p ram m F N bm D pg) {Z : Nat → Prop} (c : Chg Z w w') (hZ : ∀ b, F b → ¬ Z b) : PM w' p ram m F N bm D pg :=
  h.keep c.size fun b hb => c.block b (h.flt b hb) (hZ b hb)
theorem below (h : PM w p ram m F N bm D pg) {n : Nat} (c : Below n w w') (hn : w.heap.size ≤ n) : PM w' p ram m F N bm D pg :=
  h.keep c.size fun b hb => c.block b (Nat.lt_of_lt_of_le (h.flt b hb) hn)
theorem more (h : PM w p ram m F N bm D pg) {N' : Nat} (hN : N ≤ N') : PM w p ram m F N' bm D pg := ⟨h.blk, h.own.mono hN, h.at_, h.rows, h.zero, h.inj, h.fp, h.fm, h.flt⟩
theorem ne_pm (h : PM w p ram m F N bm D pg) : p ≠ bm := by
  obtain ⟨es, clock, h1, _⟩ := h.own
  intro e
  have := h.blk
  rw [e] at this
  unfold Blk at this
  rw [h1] at this
  cases this
theorem ne_gm (h : PM w p ram m F N bm D pg) {k g : Nat} (hk : pg k = some g) : g ≠ bm := by
  obtain ⟨es, clock, h1, _⟩ := h.own
  intro e
  have := (h.rows k g hk).1
  rw [e] at this
  unfold Blk at this
  rw [h1] at this
  cases this
theorem ne_gp (h : PM w p ram m F N bm D pg) {k g : Nat} (hk : pg k = some g) : g ≠ p := by
  intro e
  have h1 := (h.rows k g hk).1
  rw [e] at h1
  have h2 := h.blk
  unfold Blk at h1 h2
  rw [h1] at h2
  have := Option.some.inj h2
  injection this with h3 h4
  exact absurd h4 (by decide)
/-- m.pages[k] -/
theorem look (h : PM w p ram m F N bm D pg) (k : Nat) (hk : k < 18446744073709551616) :
    (Instr.lookup 81 (.map (some bm)) (.int .u64 (k : Int)) false).run Try.prog w = .ok (match pg k with | none => .slice none 0 0 | some g => pgV g) w := by
  obtain ⟨v, ps, hrun, hv⟩ := h.own.lookup keyU Try.underlying81 (zeroPg w) pgE_nil (keyU_mk k hk)
  rw [hrun]
  rw [h.at_ k hk] at hv
  unfold pgAt at hv
  rcases pgE_inv hv with ⟨g, rfl, hy⟩ | ⟨rfl, hy⟩
  · cases hp : pg k with
    | none => rw [hp] at hy; cases hy
    | some g' =>
      rw [hp] at hy
      have e := congrArg Prod.fst hy
      simp only [DataW.lit.injEq, Lit.int.injEq, true_and] at e
      have : g' = g := by omega
      subst this; rfl
  · cases hp : pg k with
    | none => rfl
    | some g' => rw [hp] at hy; cases hy
/-- m.pages[k] = a new page of zeros -/
theorem make (h : PM w p ram m F N bm D pg) (k g : Nat) (hk : k < 18446744073709551616) (hN : N < maxLen) (hp : pg k = none) (hg : Blk w g 5 (bcells (List.replicate 4096 0)).toArray) (hF : ¬ F g) :
    ∃ w2 D2, (Instr.mapUpdate 81 (.map (some bm)) (.int .u64 (k : Int)) (pgV g)).run Try.prog w = .ok () w2 ∧ w.grownBy w2 (some bm) ∧
      PM w2 p ram m (fun b => F b ∨ b = g) (N + 1) bm D2 (fun x => if x = k then some g else pg x) := by
  obtain ⟨w2, hrun, hown, hgr⟩ := h.own.update keyU Try.underlying81 hN (keyU_mk k hk) (pgE_mk g)
  have hb : ∀ b, b ≠ bm → b < w.heap.size → w2.heap[b]? = w.heap[b]? := fun b hb hl => hgr.block b hl (fun e => hb (Option.some.inj e))
  have hgm : g ≠ bm := fun e => hF (e ▸ h.fm)
  have hD := h.own.isMap
  refine ⟨w2, _, hrun, hgr, (hb p h.ne_pm h.blk.lt).trans h.blk, hown, fun x hx => ?_, fun x gx hx => ?_, fun x hx i hi => ?_, fun x y gx hx hy => ?_, .inl h.fp, .inl h.fm, fun b hbF => ?_⟩
  · by_cases e : x = k
    · subst e
      rw [Maps.atKey_put_same hD (keyU.key (keyU_mk x hk))]
      simp [pgAt]
    · rw [Maps.atKey_put_other (by simp; omega), h.at_ x hx]
      simp [pgAt, e]
  · by_cases e : x = k
    · subst e
      simp only [if_true, Option.some.injEq] at hx
      subst hx
      exact ⟨(hb g hgm hg.lt).trans (by rw [pageOf_zero m x (h.zero x hp)]; exact hg), .inr rfl, hk⟩
    · simp only [if_neg e] at hx
      obtain ⟨r1, r2, r3⟩ := h.rows x gx hx
      exact ⟨(hb gx (h.ne_gm hx) r1.lt).trans r1, .inl r2, r3⟩
  · by_cases e : x = k
    · subst e; simp at hx
    · simp only [if_neg e] at hx; exact h.zero x hx i hi
  · by_cases e : x = k
    · by_cases e2 : y = k
      · rw [e, e2]
      · simp only [if_pos e, Option.some.injEq] at hx
        simp only [if_neg e2] at hy
        subst hx
        exact absurd (h.rows y g hy).2.1 hF
    · by_cases e2 : y = k
      · simp only [if_pos e2, Option.some.injEq] at hy
        simp only [if_neg e] at hx
        subst hy
        exact absurd (h.rows x g hx).2.1 hF
      · simp only [if_neg e] at hx
        simp only [if_neg e2] at hy
        exact h.inj x y gx hx hy
  · rcases hbF with hbF | rfl
    · exact Nat.lt_of_lt_of_le (h.flt b hbF) hgr.size
    · exact Nat.lt_of_lt_of_le hg.lt hgr.size
/-- a page is written -/
theorem put (h : PM w p ram m F N bm D pg) {k g o : Nat} {l : List UInt8} (hp : pg k = some g) (ho : o + l.length ≤ 4096) (hgr : w.grownBy w' (some g)) (hg : Blk w' g 5 (bcells ((pageOf m k).take o ++ l ++ (pageOf m k).drop (o + l.length))).toArray) :
    PM w' p ram (writeM m (4096 * k + o) l) F N bm D pg := by
  have hb : ∀ b, b ≠ g → b < w.heap.size → w'.heap[b]? = w.heap[b]? := fun b hb hl => hgr.block b hl (fun e => hb (Option.some.inj e))
  obtain ⟨es, clock, h1, h2, h3, h4⟩ := h.own
  have hmlt : bm < w.heap.size := (Array.getElem?_eq_some_iff.1 h1).1
  refine ⟨(hb p (h.ne_gp hp).symm h.blk.lt).trans h.blk, ⟨es, clock, (hb bm (h.ne_gm hp).symm hmlt).trans h1, h2, h3, h4⟩, h.at_, fun x gx hx => ?_, fun x hx i hi => ?_, h.inj, h.fp, h.fm, fun b hbF => Nat.lt_of_lt_of_le (h.flt b hbF) hgr.size⟩
  · obtain ⟨r1, r2, r3⟩ := h.rows x gx hx
    by_cases e : x = k
    · subst e
      rw [hp] at hx
      cases hx
      exact ⟨by rw [pageOf_write m x o l ho]; exact hg, r2, r3⟩
    · have hne : gx ≠ g := fun e2 => e (h.inj x k g (e2 ▸ hx) hp)
      rw [pageOf_other m k x o l ho e]
      exact ⟨(hb gx hne r1.lt).trans r1, r2, r3⟩
  · have e : x ≠ k := fun e => by rw [e, hp] at hx; cases hx
    rw [writeM_out]
    · exact h.zero x hx i hi
    · rcases Nat.lt_or_gt_of_ne e with h5 | h5 <;> omega
end PM
theorem PMem.keep {w w' : World} {p : Nat} {ram : Sp} {m : Mm} {F : Nat → Prop} {N : Nat} (h : PMem w p ram m F N) (hs : w.heap.size ≤ w'.heap.size) (hb : ∀ b, F b → b < w.heap.size → w'.heap[b]? = w.heap[b]?) : PMem w' p ram m F N := by
  obtain ⟨bm, D, pg, h⟩ := h
  exact ⟨bm, D, pg, h.keep hs (fun b hF => hb b hF (h.flt b hF))⟩
theorem PMem.more {w : World} {p : Nat} {ram : Sp} {m : Mm} {F : Nat → Prop} {N N' : Nat} (h : PMem w p ram m F N) (hN : N ≤ N') : PMem w p ram m F N' := by
  obtain ⟨bm, D, pg, h⟩ := h
  exact ⟨bm, D, pg, h.more hN⟩
theorem PMem.flt {w : World} {p : Nat} {ram : Sp} {m : Mm} {F : Nat → Prop} {N : Nat} (h : PMem w p ram m F N) : ∀ b, F b → b < w.heap.size := by
  obtain ⟨bm, D, pg, h⟩ := h
  exact h.flt
theorem PMem.below {w w' : World} {p : Nat} {ram : Sp} {m : Mm} {F : Nat → Prop} {N : Nat} (h : PMem w p ram m F N) {n : Nat} (c : Below n w w') (hn : w.heap.size ≤ n) : PMem w' p ram m F N :=
  h.keep c.size fun b _ hl => c.block b (Nat.lt_of_lt_of_le hl hn)
end Go.Proofs.Ytjfmgoickokbjaa
