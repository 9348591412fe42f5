/-
  Parts: MaO TouA TouB TouC.
-/
import Derived.Test.YtpellkblaeeopaaGreatDoorC13
import Derived.Test.YtpellkblaeeopaaGreatDoorC11
/-
  Walks: memory and flash that nobody made; slices.Clone; the flash.
-/
namespace Go.Proofs.YtpellkblaeeopaaGreatDoor
open Go.RowKit

end Go.Proofs.YtpellkblaeeopaaGreatDoor
/-
  Walk: (*Mem).Touched.
-/
namespace Go.Proofs.YtpellkblaeeopaaGreatDoor
open Go.RowKit

end Go.Proofs.YtpellkblaeeopaaGreatDoor
/-
  Plain: zeros in memory. Walk: (*Mem).Zero.
-/
namespace Go.Proofs.YtpellkblaeeopaaGreatDoor
open Go.RowKit

theorem chg_tr {Z Z' : Nat → Prop} {a b c : World} (h : Chg Z a b) (k : Chg Z' b c) (hz : ∀ i, i < a.heap.size → Z' i → Z i) : Chg Z a c :=
  ⟨k.os.trans h.os, k.tape.trans h.tape, k.output.trans h.output, Nat.le_trans h.size k.size, fun i hi hn => (k.block i (Nat.lt_of_lt_of_le hi h.size) (fun e => hn (hz i hi e))).trans (h.block i hi hn)⟩
theorem chg_turned {w w' : World} {b : Nat} (h : w.mapTurned w' b) : Chg (fun k => k = b) w w' := by
  exact Chg.grown h.grown (fun k e => (Option.some.inj e).symm)
theorem reg_loadPM {P : Program} {o : Oper} {a : Act} {w : World} (ty : TypeId) (t : Tmp) (ho : o.op = .load ty (.tmp t)) {b off : Nat} {cs : Array Value} (he : a.tmps[t]?.getD undef = .pointer (some ⟨b, off, none⟩))
    (h : w.rangeAt b off cs.toList) {d : TypeDesc} (hu : P.underlying ty = some d) (hd : d.isRow = true) (hi : (P.info? ty).map (·.size) = some cs.size) :
    (execOp a.eval o).run P w = .ok (.value (.agg cs)) w := by
  have := run_loadAt_mid (P := P) w b off ty cs.toList d h hu hd (by simpa using hi)
  simp [execOp, ho, Act.eval, he, this]
/-- zeros in s -/
def clrM (m : Mm) (s : Sp) : Mm := fun x => if s.has x then 0 else m x
/-- zeros in those pages that have come -/
def midM (m : Mm) (s : Sp) (left : Lit → Bool) : Mm := fun x => if left (litU (x / 4096)) then m x else clrM m s x
/-- what Zero answers, and what it leaves -/
def zErr (ram s : Sp) : Int := if s.within ram then 0 else 90
def zV (ram : Sp) (m : Mm) (s : Sp) : Mm := if s.within ram then clrM m s else m
theorem midM_end (m : Mm) (s : Sp) {left : Lit → Bool} (h : ∀ kl, left kl = false) : midM m s left = clrM m s := by
  funext x; simp [midM, h]
theorem midM_strike (m : Mm) (s : Sp) (left : Lit → Bool) (k : Nat) : midM m s (fun z => left z && !z.sameKey (litU k)) = fun y => if y / 4096 = k then clrM m s y else midM m s left y := by
  funext y
  simp only [midM, sameKey_litU]
  by_cases h : y / 4096 = k
  · simp [h]
  · simp [h]
theorem midM_left (m : Mm) (s : Sp) {left : Lit → Bool} {k : Nat} (hl : left (litU k) = true) {y : Nat} (hy : y / 4096 = k) : midM m s left y = m y := by
  simp [midM, hy, hl]
theorem midM_skip (m : Mm) (s : Sp) {left : Lit → Bool} {k : Nat} (hl : left (litU k) = true) (h : ∀ y, y / 4096 = k → s.has y = false) : midM m s (fun z => left z && !z.sameKey (litU k)) = midM m s left := by
  rw [midM_strike]; funext y
  by_cases hy : y / 4096 = k
  · rw [if_pos hy, midM_left m s hl hy, clrM, h y hy]; rfl
  · rw [if_neg hy]
theorem midM_write (m : Mm) (s : Sp) {left : Lit → Bool} {k : Nat} (hl : left (litU k) = true) (o n : Nat) (hon : o + n ≤ 4096) (h : ∀ i, i < 4096 → (s.has (4096 * k + i) = true ↔ o ≤ i ∧ i < o + n)) :
    midM m s (fun z => left z && !z.sameKey (litU k)) = writeM (midM m s left) (4096 * k + o) (List.replicate n 0) := by
  rw [midM_strike]; funext y
  by_cases hy : y / 4096 = k
  · rw [if_pos hy, clrM]
    have hi := h (y % 4096) (by omega)
    rw [show 4096 * k + y % 4096 = y by omega] at hi
    unfold writeM
    rw [List.length_replicate]
    by_cases hs : s.has y = true
    · have := hi.1 hs
      rw [if_pos hs, if_pos (by omega), List.getElem?_replicate, if_pos (by omega)]; rfl
    · have : ¬ (o ≤ y % 4096 ∧ y % 4096 < o + n) := fun e => hs (hi.2 e)
      rw [if_neg hs, if_neg (by omega), midM_left m s hl hy]
  · rw [if_neg hy, writeM_out]
    rw [List.length_replicate]; omega
theorem midM_gone (m : Mm) (s : Sp) {left : Lit → Bool} {k : Nat} (h : ∀ i, i < 4096 → s.has (4096 * k + i) = true) (i : Nat) (hi : i < 4096) : midM m s (fun z => left z && !z.sameKey (litU k)) (4096 * k + i) = 0 := by
  rw [midM_strike]
  show (if (4096 * k + i) / 4096 = k then clrM m s (4096 * k + i) else _) = 0
  rw [if_pos (by omega), clrM, if_pos (h i hi)]
theorem midM_rest (m : Mm) (s : Sp) {left : Lit → Bool} {k : Nat} (y : Nat) (hy : y / 4096 ≠ k) : midM m s (fun z => left z && !z.sameKey (litU k)) y = midM m s left y := by
  rw [midM_strike]
  show (if y / 4096 = k then _ else _) = _
  rw [if_neg hy]
theorem pageOf_congr {m m' : Mm} {k : Nat} (h : ∀ y, y / 4096 = k → m' y = m y) : pageOf m' k = pageOf m k := by
  unfold pageOf
  refine List.map_congr_left fun i hi => h _ ?_
  have := List.mem_range.1 hi
  omega
theorem has_of_pg {w : World} {p : Nat} {ram : Sp} {m : Mm} {F : Nat → Prop} {N bm : Nat} {D : DataW Unit} {pg : Nat → Option Nat} (h : PM w p ram m F N bm D pg) {k g : Nat} (hp : pg k = some g) : Maps.has D (litU k) = true := by
  have h1 := (h.rows k g hp).2.2
  exact Maps.has_true_of_atKey (y := .lit (.int .i64 (g : Int))) fun zd => by
    have h2 := h.at_ k zd (by omega)
    unfold pgAt at h2
    rw [hp] at h2
    exact h2
theorem midM_start {w : World} {p : Nat} {ram : Sp} {m : Mm} {F : Nat → Prop} {N bm : Nat} {D : DataW Unit} {pg : Nat → Option Nat} (h : PM w p ram m F N bm D pg) (s : Sp) : midM m s (Maps.has D) = m := by
  funext y
  unfold midM
  cases hh : Maps.has D (litU (y / 4096)) with
  | true => rfl
  | false =>
    have hp : pg (y / 4096) = none := by
      cases hp : pg (y / 4096) with
      | none => rfl
      | some g => rw [has_of_pg h hp] at hh; cases hh
    have h0 := h.zero _ hp (y % 4096) (by omega)
    rw [show 4096 * (y / 4096) + y % 4096 = y by omega] at h0
    show clrM m s y = m y
    unfold clrM
    rw [h0]; split <;> rfl
/-- a page goes -/
theorem PM.drop {w w' : World} {p : Nat} {ram : Sp} {m : Mm} {F : Nat → Prop} {N bm : Nat} {D : DataW Unit} {pg : Nat → Option Nat} (h : PM w p ram m F N bm D pg) (k : Nat) (ht : w.mapTurned w' bm) (hown : w'.ownsMap Tryz.prog 22 pgE bm N (D.del (litU k)))
    (m' : Mm) (h1 : ∀ y, y / 4096 ≠ k → m' y = m y) (h0 : ∀ i, i < 4096 → m' (4096 * k + i) = 0) : PM w' p ram m' F N bm (D.del (litU k)) (fun x => if x = k then none else pg x) := by
  have hc := chg_turned ht
  have hb : ∀ b, b ≠ bm → b < w.heap.size → w'.heap[b]? = w.heap[b]? := fun b hb hl => hc.block b hl hb
  refine ⟨(hb p h.ne_pm h.blk.lt).trans h.blk, hown, fun x zd hx => ?_, fun x gx hx => ?_, fun x hx i hi => ?_, fun x y gx hx hy => ?_, h.fp, h.fm, fun b hF => Nat.lt_of_lt_of_le (h.flt b hF) hc.size⟩
  · by_cases e : x = k
    · subst e
      rw [show (Lit.int .u64 (x : Int)) = litU x from rfl, Maps.atKey_del_same]
      simp [pgAt]
    · rw [Maps.atKey_del_other (fun e2 => e (by unfold litU at e2; injection e2 with _ e2; omega)), h.at_ x zd hx]
      simp [pgAt, e]
  · by_cases e : x = k
    · simp [e] at hx
    · simp only [if_neg e] at hx
      obtain ⟨r1, r2, r3⟩ := h.rows x gx hx
      exact ⟨(hb gx (h.ne_gm hx) r1.lt).trans (by rw [pageOf_congr (fun y hy => h1 y (by omega))]; exact r1), r2, r3⟩
  · by_cases e : x = k
    · subst e; exact h0 i hi
    · simp only [if_neg e] at hx
      rw [h1 _ (by omega)]; exact h.zero x hx i hi
  · by_cases e : x = k
    · simp [e] at hx
    · by_cases e2 : y = k
      · simp [e2] at hy
      · simp only [if_neg e] at hx
        simp only [if_neg e2] at hy
        exact h.inj x y gx hx hy
theorem clear_page {w : World} {p : Nat} {ram : Sp} {m : Mm} {F : Nat → Prop} {N bm : Nat} {D : DataW Unit} {pg : Nat → Option Nat} (h : PM w p ram m F N bm D pg) {k g : Nat} (hp : pg k = some g) (o n c : Nat) (hn : 0 < n) (hon : o + n ≤ 4096) :
    ∃ w', (∀ ty, (Builtin.clear_ #[73] ty #[.slice (some ⟨g, o, none⟩) n c]).run Tryz.prog w = .ok (.tuple #[]) w') ∧ w.grownBy w' (some g) ∧ PM w' p ram (writeM m (4096 * k + o) (List.replicate n 0)) F N bm D pg := by
  have hb := (h.rows k g hp).1
  have hsz : (bcells (pageOf m k)).toArray.size = 4096 := by rw [List.size_toArray, bcells_length, pageOf_length]
  obtain ⟨h1, h2, _⟩ := Blk.setCells (List.replicate n (Value.int .u8 0)) o w _ hb (by rw [List.length_replicate, hsz]; exact hon)
  refine ⟨_, fun ty => Lib.run_clear_slice w _ _ ty (.int .u8 0) Tryz.underlying73 (fun w => by kernel_rfl) rfl rfl g o n c hn (fun j hj => ?_) (fun j _ => hb.frozen _), h2, h.put hp (by rw [List.length_replicate]; exact hon) h2 ?_⟩
  · rw [hb.cell, Array.getElem?_eq_getElem (by rw [hsz]; omega)]; rfl
  · have e : List.replicate n (Value.int .u8 0) = (bcells (List.replicate n 0)).take n := by simp [bcells]
    rw [List.toList_toArray] at h1
    have h5 : splice (bcells (pageOf m k)) o (List.replicate n (Value.int .u8 0)) = bcells ((pageOf m k).take o ++ List.replicate n 0 ++ (pageOf m k).drop (o + (List.replicate n (0 : UInt8)).length)) := by
      rw [e, splice_bytes _ _ _ _ (by simp)]
      rw [show (List.replicate n (0 : UInt8)).take n = List.replicate n 0 by simp]
    rw [h5] at h1
    exact h1
end Go.Proofs.YtpellkblaeeopaaGreatDoor
/-
  Walk: (*Mem).Zero.
-/
namespace Go.Proofs.YtpellkblaeeopaaGreatDoor
open Go.RowKit

set_option maxRecDepth 100000 in
set_option maxHeartbeats 2000000 in
theorem mzero_p (p : Nat) (ram : Sp) (okr : ram.ok) (hr40 : ram.base + ram.size ≤ 1099511627776) (m : Mm) (F : Nat → Prop) (N : Nat) (s : Sp) (oks : s.ok) (w : World) (hM : PMem w p ram m F N) :
    Calls Tryz.prog 61 #[.pointer (some ⟨p, 0, none⟩), .agg s.cells] w fun e w' => e = .returned (.int .i64 (zErr ram s)) ∧ MAfterP w w' p ram (zV ram m s) F N := by
  obtain ⟨bm, D, pg, hP⟩ := hM
  have HBL := Lib.hid hP.blk
  have hFlt := hP.flt
  have B1 : Below w.heap.size w (w.alloc (.cells s.cells 25)) := (Below.refl _ _).alloc (Nat.le_refl _) _
  have hbS := Blk.new w 25 s.cells
  have hP1 := hP.below B1 (Nat.le_refl _)
  have hPb := hP1.blk
  obtain ⟨c0, c1⟩ := sp_cells hbS
  go_enter Tryz.func61, Tryz.ntmps61
  go_wp2_with fail
  generalize w.alloc (.cells s.cells 25) = W1 at *
  refine Flow.wp_region_flow (W1.heap.size) [] [] (by kernel_rfl) (by kernel_rfl) (Nat.le_refl _) (fun _ h => by cases h) Flow.facts_nil ?_
  refine Flow.pass_old (X := .pointer (some ⟨p, 0, none⟩)) 0 (Flow.met_none rfl) (.inl rfl) (by kernel_rfl) (by kernel_rfl) rfl ?_
  refine Flow.pass_val (.bool false) (Flow.met_none rfl) (fun a W hH => ?_) ?_
  · have e0 := Flow.see_new 10 0 hH.sees (by kernel_rfl) (by kernel_rfl) rfl rfl
    have hq := ptrNe p W; go_simp; first | done | rfl
  refine Flow.pass_copy 11 1 (Flow.met_none rfl) (.inl rfl) (by kernel_rfl) (by kernel_rfl) rfl rfl (fun _ _ => Flow.kept_eqs _ _) ?_
  refine Flow.pass_val (.agg s.cells) (Flow.met_some 2 false 12 rfl rfl (by kernel_rfl) (by kernel_rfl) rfl rfl) (fun a W hH => ?_) ?_
  · have e0 := Flow.see_old 3 hH.sees (by kernel_rfl) (by kernel_rfl) rfl
    exact reg_load 25 _ rfl e0 (hbS.drew.below hH.below hbS.lt) Tryz.underlying25 rfl infSpan
  refine Flow.pass_old (X := .pointer (some ⟨p, 0, none⟩)) 0 (Flow.met_some 2 false 12 rfl rfl (by kernel_rfl) (by kernel_rfl) rfl rfl) (.inl rfl) (by kernel_rfl) (by kernel_rfl) rfl ?_
  refine Flow.pass_val (.pointer (some ⟨p, 0, none⟩)) (Flow.met_some 2 false 12 rfl rfl (by kernel_rfl) (by kernel_rfl) rfl rfl) (fun a W hH => ?_) ?_
  · have e0 := Flow.see_new 14 4 hH.sees (by kernel_rfl) (by kernel_rfl) rfl rfl
    go_simp; first | done | rfl
  refine Flow.pass_val (.pointer (some ⟨p, 0, none⟩)) (Flow.met_some 2 false 12 rfl rfl (by kernel_rfl) (by kernel_rfl) rfl rfl) (fun a W hH => ?_) ?_
  · have e0 := Flow.see_new 15 5 hH.sees (by kernel_rfl) (by kernel_rfl) rfl rfl
    go_simp; first | done | rfl
  refine Flow.pass_val (.agg ram.cells) (Flow.met_some 2 false 12 rfl rfl (by kernel_rfl) (by kernel_rfl) rfl rfl) (fun a W hH => ?_) ?_
  · have e0 := Flow.see_new 16 6 hH.sees (by kernel_rfl) (by kernel_rfl) rfl rfl
    exact reg_loadPM 25 _ rfl e0 (pm_ram (hPb.drew.below hH.below hPb.lt)) Tryz.underlying25 rfl infSpan
  refine Flow.pass_step (Reg.eqs (.bool (s.within ram))) (fun _ _ => Flow.kept_eqs _ _) (Flow.met_some 2 false 12 rfl rfl (by kernel_rfl) (by kernel_rfl) rfl rfl) (fun a W hH => ?_) ?_
  · have e0 := Flow.see_new 13 3 hH.sees (by kernel_rfl) (by kernel_rfl) rfl rfl
    have e1 := Flow.see_new 17 7 hH.sees (by kernel_rfl) (by kernel_rfl) rfl rfl
    refine Reg.wp_call rfl Tryz.func82 rfl (by kernel_rfl) (by simp [Act.eval, e0, e1]) (within_any s ram oks okr W) ?_
    rintro e w' ⟨rfl, hB⟩
    exact ⟨_, rfl, _, rfl, hB, rfl⟩
  refine Flow.pass_val (.bool (!(s.within ram))) (Flow.met_some 2 false 12 rfl rfl (by kernel_rfl) (by kernel_rfl) rfl rfl) (fun a W hH => ?_) ?_
  · have e0 := Flow.see_new 18 8 hH.sees (by kernel_rfl) (by kernel_rfl) rfl rfl
    go_simp; first | done | rfl
  refine Flow.pass_val (.bool (!(s.within ram))) (Flow.met_none rfl) (fun a W hH => ?_) ?_
  · have e0 := Flow.see_new 12 2 hH.sees (by kernel_rfl) (by kernel_rfl) rfl rfl
    have e1 := Flow.see_new 19 9 hH.sees (by kernel_rfl) (by kernel_rfl) rfl rfl
    go_simp; first | done | rfl
  refine Flow.pass_end [none, none, none, none, none, none, none, none, none, none, some 10, some 11, some 12, some 13, some 14, some 15, some 16, some 17, some 18, some 19, some 20, none, none, none, none, none, none, none, none, none, none, none, none, none, none, none, none, none, none, none, none, none, none, none, none, none, none, none, none, none, none, none, none, none, none, none, none, none, none, none, none, none, none, none, none, none, none, none, none, none, none, none, none, none, none, none, none, none] (by kernel_rfl) ?_
  intro f gg w9 hB hfa hT hfg
  have h20 : f 20 = _ := (hfg 20 10 (by kernel_rfl)).trans (hT 10 _ (by kernel_rfl) rfl)
  simp only [Reg.sel, h20]
  have Bw : Below W1.heap.size W1 w9 := (Below.refl _ _).drew.trans hB
  have B9 := B1.trans (Bw.mono B1.size)
  have hP9 := hP1.below Bw (Nat.le_refl _)
  have hbS9 := hbS.below Bw hbS.lt
  obtain ⟨q, hq⟩ : ∃ q, q = s.within ram := ⟨_, rfl⟩
  rw [← hq]
  have HQ := Lib.hid hq
  have hf10 := f 10
  clear hT hfg hfa h20 hB hP1 hPb hbS c0 c1 hP B1 Bw hf10 hq
  obtain ⟨c0, c1⟩ := sp_cells hbS9
  cases q with
  | false =>
    go_wp2
    go_ret
    have hz1 : zErr ram s = 90 := by rw [zErr, ← HQ.out]; rfl
    have hz2 : zV ram m s = m := by rw [zV, ← HQ.out]; rfl
    rw [hz1, hz2]
    exact ⟨rfl, ⟨F, ⟨_, _, _, hP9⟩, Chg.of_ext B9, fun _ h => h, fun _ h => .inl h⟩, Eq.trans hP9.blk (Eq.symm HBL.out)⟩
  | true =>
    obtain ⟨hsg, _, hs1, hs2⟩ : s.good = true ∧ ram.good = true ∧ ram.base ≤ s.base ∧ s.base + s.size ≤ ram.base + ram.size := by
      have := HQ.out.symm
      unfold Sp.within at this
      exact of_decide_eq_true this
    have hg := Sp.good_iff.1 hsg
    obtain ⟨L, hL⟩ : ∃ L, L = s.last := ⟨_, rfl⟩
    have hL2 : L = s.base + s.size - 1 := by rw [hL, Sp.last, if_pos hsg]
    have HL2 := Lib.hid hL2
    have hHas : Hid (∀ y, s.has y = true ↔ s.base ≤ y ∧ y ≤ L) := Lib.hid (fun y => by unfold Sp.has; rw [decide_eq_true_iff]; omega)
    have hlast := last_any s oks w9
    rw [← hL] at hlast
    have HG := Lib.hid hg
    have hLr : L < 18446744073709551616 ∧ s.base ≤ L := by omega
    have HLR := Lib.hid hLr
    clear hL hsg hg hs1 hL2 hLr
    go_wp2_with ((with_reducible refine at_load 25 ?_); refine wpList_loadAll _ rfl 25 _ rfl w.heap.size 25 s.cells hbS9 _ rfl Tryz.underlying25 rfl infSpan ?_)
    refine hlast.mono ?_
    rintro e W2 ⟨rfl, hB2⟩
    have hbS2 := hbS9.below hB2 hbS9.lt
    have hP2 := hP9.below hB2 (Nat.le_refl _)
    have B2 := B9.trans (hB2.mono B9.size)
    clear hlast hbS9 hP9 B9 hB2 c0 c1
    have c2 : W2.cell? ⟨p, 2, none⟩ = some (.map (some bm)) := (hP2.blk.cell 2).trans rfl
    have hmS : Hid (midM m s (Maps.has D) = m) := Lib.hid (midM_start hP2 s)
    go_wp2_with (first
      | (at_range; refine wpList_range_own _ rfl _ MT rfl 22 73 keyU Tryz.underlying70 pgE bm N _ rfl hP2.own ?_; intro w0 hrg0 hg0 hs0)
      | go_in)
    go_frame
    have hP0 := hP2.keep hg0.size (fun b hb => hg0.block b (hP2.flt b hb) (fun e => by cases e))
    have hbS0 : Blk w0 w.heap.size 25 s.cells := hbS2.grown hg0 (fun e => by cases e)
    have C0 : Chg F w w0 := Chg.of_ext (B2.trans (Below.mono ⟨hg0.os, hg0.tape, hg0.output, hg0.size, fun k hk => hg0.block k hk (fun e => by cases e)⟩ B2.size))
    have hrl := hbS2.lt
    generalize W2.heap.size = r at *
    rw [← hmS.out] at hP0
    clear hP2 hbS2 B2 c2 hg0 hs0
    go_loopw [6] (fun _ wr => ∃ (left : Lit → Bool) (cnt : Nat) (D' : DataW Unit) (pg' : Nat → Option Nat), wr.ranges Tryz.prog 22 pgE bm r N D' left cnt ∧ PM wr p ram (midM m s left) F N bm D' pg' ∧ Blk wr w.heap.size 25 s.cells ∧ Chg F w wr) (fun _ wr => wr.rangeLeft bm r)
    case atStart => exact ⟨_, _, _, _, hrg0, hP0, hbS0, C0⟩
    case round =>
      obtain ⟨left, cnt, D', pg', hrg, hP3, hbS3, C3⟩ := hrel
      go_wp2_with (first
        | (at_next; refine wpList_next_ranges _ rfl _ rfl 22 keyU pgE (fun x : Ku => Value.int .u64 ((x.1 : Nat) : Int)) id (fun key kl hk => by obtain ⟨x, hx, _⟩ := keyU_inv hk; exact ⟨x, hx⟩) (fun v _ _ => ⟨v, rfl⟩) bm r N _ _ _ rfl hrg ?_ ?_)
        | go_in)
      · intro hc0 hl0
        go_wp2
        go_ret
        have hz1 : zErr ram s = 0 := by rw [zErr, ← HQ.out]; rfl
        have hz2 : zV ram m s = clrM m s := by rw [zV, ← HQ.out]; rfl
        rw [hz1, hz2]
        rw [midM_end m s hl0] at hP3
        exact ⟨rfl, ⟨F, ⟨_, _, _, hP3⟩, C3, fun _ h => h, fun _ h => .inl h⟩, Eq.trans hP3.blk (Eq.symm HBL.out)⟩
      · intro k hk64 c kl yd yp w3 cnt3 hkey hlk hv hat hrg3 hlt hg3 hs3 hen
        obtain ⟨x', ex, hkl⟩ := keyU_inv hkey
        have hkx : x'.1 = k := by injection ex with _ ex; omega
        rw [hkx] at hkl
        subst hkl
        clear ex hkx
        have hgk : ∃ g, c = pgV g ∧ pg' k = some g := by
          have h1 := fun zd => (hP3.at_ k zd hk64).symm.trans (hat zd)
          rcases pgE_inv hv with ⟨g, h2, h3⟩ | ⟨h2, h3⟩
          · refine ⟨g, h2, ?_⟩
            injection h3 with h3 _
            have h4 := h1 .nil
            unfold pgAt at h4
            cases hp : pg' k with
            | none => rw [hp, h3] at h4; cases h4
            | some g' =>
              rw [hp, h3] at h4
              simp only [DataW.lit.injEq, Lit.int.injEq, true_and] at h4
              rw [show g' = g by omega]
          · exfalso
            injection h3 with h3 _
            have h4 := h1 (.lit (.bool true))
            unfold pgAt at h4
            cases hp : pg' k with
            | none => rw [hp, h3] at h4; cases h4
            | some g' => rw [hp, h3] at h4; cases h4
        obtain ⟨g, rfl, hpk⟩ := hgk
        have hl := hlk
        have HLK := Lib.hid hl
        have hk52 := (hP3.rows k g hpk).2.2
        have hP4 := hP3.chg (Chg.grown hg3 (Z := fun b => b = r) (fun b e => (Option.some.inj e).symm)) (fun b hF e => by have := hFlt b hF; omega)
        have hbS4 := hbS3.grown hg3 (fun e => by have := Option.some.inj e; omega)
        have C4 : Chg F w w3 := chg_tr C3 (Chg.grown hg3 (Z := fun b => b = r) (fun b e => (Option.some.inj e).symm)) (fun i hi e => by have e2 : i = r := e; have := C3.size; omega)
        have HM : Hid (wr.rangeLeft bm r = cnt) := Lib.hid hrg.left_eq
        have HLT := Lib.hid hlt
        obtain ⟨f0, hf0⟩ : ∃ f0, f0 = 4096 * k := ⟨_, rfl⟩
        have hk1 : IntKind.u64.wrap ((k : Int) * 4096) = (f0 : Int) := by rw [IntWalk.u64_in _ (by omega)]; omega
        obtain ⟨T, hk2⟩ : ∃ T, IntKind.u64.wrap ((f0 : Int) + 4096) = T := ⟨_, rfl⟩
        have hk3 : IntKind.u64.wrap (T - 1) = ((f0 + 4095 : Nat) : Int) := by
          rw [← hk2]
          rcases Nat.lt_or_ge (f0 + 4096) 18446744073709551616 with h | h
          · rw [IntWalk.u64_in ((f0 : Int) + 4096) (by omega), IntWalk.u64_in _ (by omega)]; omega
          · obtain rfl : f0 = 18446744073709547520 := by omega
            decide +kernel
        obtain ⟨c0, c1⟩ := sp_cells hbS4
        clear hkey hlk hv hat hlt hg3 hs3 hl hrg hP3 hbS3 C3
        unfold pgV at *
        have hskip : (f0 + 4095 < s.base ∨ L < f0) → Hid (midM m s (fun z => left z && !z.sameKey (litU k)) = midM m s left) := fun h => Lib.hid (midM_skip m s HLK.out (fun y hy => by
          cases hh : s.has y with
          | false => rfl
          | true => have := (hHas.out y).1 hh; omega))
        by_cases hA : f0 + 4095 < s.base
        · have HS := hskip (.inl hA)
          have ia : ((f0 + 4095 : Nat) : Int) < (s.base : Int) := by omega
          clear hskip hf0
          go_wp2
          go_roundw
          case rel => exact ⟨_, cnt3, D', pg', hrg3, by rw [HS.out]; exact hP4, hbS4, C4⟩
          case measure => rw [hrg3.left_eq, HM.out]; exact HLT.out
        by_cases hB : L < f0
        · have HS := hskip (.inr hB)
          have ia : ¬ ((f0 + 4095 : Nat) : Int) < (s.base : Int) := by omega
          have ib : (L : Int) < (f0 : Int) := by omega
          clear hskip hf0
          go_wp2
          go_roundw
          case rel => exact ⟨_, cnt3, D', pg', hrg3, by rw [HS.out]; exact hP4, hbS4, C4⟩
          case measure => rw [hrg3.left_eq, HM.out]; exact HLT.out
        have ia : ¬ ((f0 + 4095 : Nat) : Int) < (s.base : Int) := by omega
        have ib : ¬ (L : Int) < (f0 : Int) := by omega
        clear hskip
        by_cases hC : s.base ≤ f0 ∧ f0 + 4095 ≤ L
        · have ic : (s.base : Int) ≤ (f0 : Int) := by omega
          have id : ((f0 + 4095 : Nat) : Int) ≤ (L : Int) := by omega
          have c2 : w3.cell? ⟨p, 2, none⟩ = some (.map (some bm)) := (hP4.blk.cell 2).trans rfl
          have HC := Lib.hid (show f0 = 4096 * k ∧ s.base ≤ f0 ∧ f0 + 4095 ≤ L from ⟨hf0, hC⟩)
          have hkm := keyU_mk k hk64
          clear hA hB hC hf0
          go_wp2_with (at_delete; refine wpList_delete_ranges _ rfl _ _ MT 22 rfl 73 keyU Tryz.underlying70 pgE bm r N _ _ _ rfl hrg3 (.int .u64 (k : Int)) (litU k) rfl hkm ?_; intro w4 cnt4 hrg4 hle hturn)
          rw [Maps.strike_twice] at hrg4
          have hc := chg_turned hturn
          have hfm := hFlt _ hP4.fm
          have hP5 := hP4.drop k hturn hrg4.owns (midM m s (fun z => left z && !z.sameKey (litU k))) (fun y hy => midM_rest m s y hy) (fun i hi => midM_gone m s (fun i hi => by have := HC.out; rw [hHas.out]; omega) i hi)
          have hbS5 : Blk w4 w.heap.size 25 s.cells := (hc.block _ hbS4.lt (by omega)).trans hbS4
          have C5 : Chg F w w4 := chg_tr C4 hc (fun i hi e => by have e2 : i = bm := e; exact e2 ▸ hP4.fm)
          go_roundw
          case rel => first | exact ⟨_, cnt4, _, _, hrg4, hP5, hbS5, C5⟩ | exact ⟨_, cnt4, _, hrg4, ⟨_, hP5⟩, hbS5, C5⟩
          case measure => rw [hrg4.left_eq, HM.out]; have := HLT.out; omega
        have hgr : g ≠ r := fun e => by have := hFlt g (hP4.rows k g hpk).2.1; omega
        have hgw : g < w.heap.size := hFlt g (hP4.rows k g hpk).2.1
        have hgb : g ≠ bm := hP4.ne_gm hpk
        have hend : ∀ o n, 0 < n → o + n ≤ 4096 → (∀ i, i < 4096 → (s.has (4096 * k + i) = true ↔ o ≤ i ∧ i < o + n)) → ∃ w4, (∀ ty, (Builtin.clear_ #[73] ty #[.slice (some ⟨g, o, none⟩) n (4096 - o)]).run Tryz.prog w3 = .ok (.tuple #[]) w4) ∧
            w4.ranges Tryz.prog 22 pgE bm r N D' (fun z => left z && !z.sameKey (litU k)) cnt3 ∧ PM w4 p ram (midM m s (fun z => left z && !z.sameKey (litU k))) F N bm D' pg' ∧ Blk w4 w.heap.size 25 s.cells ∧ Chg F w w4 := by
          intro o n h1 h2 h3
          obtain ⟨w4, h4, h5, h6⟩ := clear_page hP4 hpk o n (4096 - o) h1 h2
          refine ⟨w4, fun ty => h4 ty, hrg3.kept h5 (fun e => hgb (Option.some.inj e).symm) (fun e => hgr (Option.some.inj e).symm), ?_, hbS4.grown h5 (fun e => by have := Option.some.inj e; omega), chg_tr C4 (Chg.grown h5 (Z := fun b => b = g) (fun b e => (Option.some.inj e).symm)) (fun i _ e => by have e2 : i = g := e; exact e2 ▸ (hP4.rows k g hpk).2.1)⟩
          rw [midM_write m s HLK.out o n h2 h3]
          exact h6
        by_cases h1 : f0 < s.base
        · by_cases h2 : L < f0 + 4095
          · obtain ⟨o, ho⟩ : ∃ o, s.base = f0 + o := ⟨s.base - f0, by omega⟩
            obtain ⟨n, hn⟩ : ∃ n, L = f0 + o + n - 1 ∧ 0 < n := ⟨L + 1 - f0 - o, by have := HLR.out; omega, by have := HLR.out; omega⟩
            obtain ⟨w4, hcl, hE⟩ := hend o n hn.2 (by omega) (fun i hi => by rw [hHas.out]; omega)
            have HE := Lib.hid hE
            have ja : (f0 : Int) < (s.base : Int) := by omega
            have jb : (L : Int) < ((f0 + 4095 : Nat) : Int) := by omega
            have jc : (s.base : Int) - (f0 : Int) = (o : Int) := by omega
            have jd : (L : Int) - (f0 : Int) = ((o + n - 1 : Nat) : Int) := by omega
            have je : IntKind.u64.wrap (((o + n - 1 : Nat) : Int) + 1) = ((o + n : Nat) : Int) := by rw [IntWalk.u64_in _ (by omega)]; omega
            have ji : ¬ (s.base : Int) ≤ (f0 : Int) := by omega
            have hsl := fun W => run_slice_lhK (P := Tryz.prog) W 73 (by kernel_rfl) (by kernel_rfl) g 0 4096 4096 o n .u64 .u64 (o : Int) ((o + n : Nat) : Int) rfl rfl (by omega)
            rw [if_neg (by omega), Nat.zero_add] at hsl
            clear hE hA hB hC hf0 ho hn h1 h2 hend
            go_wp2
            have HE := HE.out
            go_roundw
            case rel => exact ⟨_, cnt3, D', pg', HE.1, HE.2.1, HE.2.2.1, HE.2.2.2⟩
            case measure => rw [HE.1.left_eq, HM.out]; exact HLT.out
          · obtain ⟨o, ho⟩ : ∃ o, s.base = f0 + o := ⟨s.base - f0, by omega⟩
            obtain ⟨w4, hcl, hE⟩ := hend o (4096 - o) (by omega) (by omega) (fun i hi => by rw [hHas.out]; omega)
            have HE := Lib.hid hE
            have ja : (f0 : Int) < (s.base : Int) := by omega
            have jb : ¬ (L : Int) < ((f0 + 4095 : Nat) : Int) := by omega
            have jc : (s.base : Int) - (f0 : Int) = (o : Int) := by omega
            have jd : ((f0 + 4095 : Nat) : Int) - (f0 : Int) = 4095 := by omega
            have ji : ¬ (s.base : Int) ≤ (f0 : Int) := by omega
            have hsl := fun W => run_slice_lhK (P := Tryz.prog) W 73 (by kernel_rfl) (by kernel_rfl) g 0 4096 4096 o (4096 - o) .u64 .u64 (o : Int) 4096 rfl (by omega) (by omega)
            rw [if_neg (by omega), Nat.zero_add] at hsl
            clear hE hA hB hC hf0 ho h1 h2 hend
            go_wp2
            have HE := HE.out
            go_roundw
            case rel => exact ⟨_, cnt3, D', pg', HE.1, HE.2.1, HE.2.2.1, HE.2.2.2⟩
            case measure => rw [HE.1.left_eq, HM.out]; exact HLT.out
        · obtain ⟨n, hn⟩ : ∃ n, L = f0 + n - 1 ∧ 0 < n := ⟨L + 1 - f0, by omega, by omega⟩
          obtain ⟨w4, hcl, hE⟩ := hend 0 n hn.2 (by omega) (fun i hi => by rw [hHas.out]; omega)
          have HE := Lib.hid hE
          have ja : ¬ (f0 : Int) < (s.base : Int) := by omega
          have jb : (L : Int) < ((f0 + 4095 : Nat) : Int) := by omega
          have jd : (L : Int) - (f0 : Int) = ((n - 1 : Nat) : Int) := by omega
          have je : IntKind.u64.wrap (((n - 1 : Nat) : Int) + 1) = (n : Int) := by rw [IntWalk.u64_in _ (by omega)]; omega
          have ji : (s.base : Int) ≤ (f0 : Int) := by omega
          have jj : ¬ ((f0 + 4095 : Nat) : Int) ≤ (L : Int) := by omega
          have hsl := fun W => run_slice_lhK (P := Tryz.prog) W 73 (by kernel_rfl) (by kernel_rfl) g 0 4096 4096 0 n .u64 .u64 0 (n : Int) rfl (by omega) (by omega)
          rw [if_neg (by omega), Nat.zero_add] at hsl
          clear hE hA hB hC hf0 hn h1 hend
          go_wp2
          have HE := HE.out
          go_roundw
          case rel => exact ⟨_, cnt3, D', pg', HE.1, HE.2.1, HE.2.2.1, HE.2.2.2⟩
          case measure => rw [HE.1.left_eq, HM.out]; exact HLT.out
end Go.Proofs.YtpellkblaeeopaaGreatDoor
