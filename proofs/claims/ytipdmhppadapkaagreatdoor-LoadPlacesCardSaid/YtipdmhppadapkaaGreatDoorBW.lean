/-
  Parts: TouA TouB TouC TouD TouE TouF TouG TouH TouI.
-/
import Derived.Test.YtipdmhppadapkaaGreatDoorBU
import Derived.Test.YtipdmhppadapkaaGreatDoorBM
import Derived.Test.YtipdmhppadapkaaGreatDoorBV
/-
  Walk: (*Mem).Touched.
-/
namespace Go.Proofs.YtipdmhppadapkaaGreatDoor
open Go.RowKit

/-- the pages of xs that hold a byte that is not 0 -/
def touchedOf (m : Mm) (xs : List Nat) : List Nat := (xs.filter fun k => someB (pageOf m k)).map (4096 * ·)
theorem touchedOf_snoc (m : Mm) (xs : List Nat) (k : Nat) : touchedOf m (xs ++ [k]) = touchedOf m xs ++ (if someB (pageOf m k) then [4096 * k] else []) := by
  cases h : someB (pageOf m k) <;> simp [touchedOf, List.filter_append, h]
theorem touchedOf_len (m : Mm) (xs : List Nat) : (touchedOf m xs).length ≤ xs.length := by
  unfold touchedOf; rw [List.length_map]; exact List.length_filter_le _ _
/-- what Touched says: rising, each a page with a byte that is not 0 -/
def TouchedIs (m : Mm) (ys : List Nat) : Prop := ys.Pairwise (fun x y => x < y) ∧ (∀ v, v ∈ ys ↔ ∃ k, v = 4096 * k ∧ someB (pageOf m k) = true)
theorem someB_zero (n : Nat) : someB (List.replicate n 0) = false := by
  unfold someB; rw [List.any_eq_false]; intro x hx; rw [List.eq_of_mem_replicate hx]; decide
theorem has_pg {w : World} {p : Nat} {ram : Sp} {m : Mm} {F : Nat → Prop} {N bm : Nat} {D : DataW Unit} {pg : Nat → Option Nat} (h : PM w p ram m F N bm D pg) {k : Nat} (hk : someB (pageOf m k) = true) : k < 4503599627370496 ∧ Maps.has D (litU k) = true := by
  cases hp : pg k with
  | none => rw [pageOf_zero m k (h.zero k hp), someB_zero] at hk; cases hk
  | some g =>
    have h1 := (h.rows k g hp).2.2
    refine ⟨h1, ?_⟩
    exact Maps.has_true_of_atKey (y := .lit (.int .i64 (g : Int))) fun zd => by
      have h2 := h.at_ k zd (by omega)
      unfold pgAt at h2
      rw [hp] at h2
      exact h2
theorem touchedIs_of {w : World} {p : Nat} {ram : Sp} {m : Mm} {F : Nat → Prop} {N bm : Nat} {D : DataW Unit} {pg : Nat → Option Nat} (h : PM w p ram m F N bm D pg) {xs : List Nat} (hs : SortedU D xs) : TouchedIs m (touchedOf m xs) := by
  refine ⟨?_, fun v => ⟨fun hv => ?_, ?_⟩⟩
  · unfold touchedOf
    rw [List.pairwise_map]
    exact (hs.1.filter _).imp fun h => by omega
  · obtain ⟨k, hk, rfl⟩ := List.mem_map.1 hv
    exact ⟨k, rfl, (List.mem_filter.1 hk).2⟩
  · rintro ⟨k, rfl, hk⟩
    obtain ⟨h1, h2⟩ := has_pg h hk
    exact List.mem_map.2 ⟨k, List.mem_filter.2 ⟨hs.2.2 ⟨k, by omega⟩ h2, hk⟩, rfl⟩
theorem cfNil (w : World) : Calls Tryz.prog 68 #[.slice none 0 0, .func (.func 69) #[] #[]] w fun e w' => e = .returned (.bool false) ∧ w' = w :=
  containsF_walk none 0 0 [] w (Rd.nil _ _ _ _) (by omega)

set_option maxRecDepth 100000 in
set_option maxHeartbeats 2000000 in
theorem touched_any (p : Nat) (ram : Sp) (m : Mm) (F : Nat → Prop) (N : Nat) (hN : N ≤ 1000000) (w : World) (hM : PMem w p ram m F N) :
    Calls Tryz.prog 23 #[.pointer (some ⟨p, 0, none⟩)] w fun e w' => ∃ ys A c, TouchedIs m ys ∧ ys.length ≤ 1000000 ∧ e = .returned (.slice A ys.length c) ∧ Rd w' w'.heap.size 1 A ys.length (ucells ys) ∧ Below w.heap.size w w' := by
  obtain ⟨bm, D, pg, hP⟩ := hM
  have hpn := ptrNe p
  have c2 : w.cell? ⟨p, 2, none⟩ = some (.map (some bm)) := (hP.blk.cell 2).trans rfl
  go_enter Tryz.func23, Tryz.ntmps23
  go_wp2_with fail
  refine (keysU_any bm w).mono ?_
  rintro e W1 ⟨rfl, hW1⟩
  have hB1 : Below w.heap.size w W1 := by rw [hW1]; exact (Below.refl _ _).alloc (Nat.le_refl _) _
  have hm1 : Blk W1 w.heap.size MT #[.map (some bm)] := by rw [hW1]; exact Blk.new _ _ _
  have hP1 := hP.below hB1 (Nat.le_refl _)
  clear hW1 hP c2
  go_wp2_with fail
  refine (sorted_any w.heap.size bm N D W1 hm1 hP1.own hN).mono ?_
  rintro e W2 ⟨xs, As, cs, hS, rfl, hR2, hB2, hlen⟩
  have hP2 := hP1.below hB2 (Nat.le_refl _)
  have hB2' := hB1.trans (hB2.mono hB1.size)
  have HS := Lib.hid hS
  clear hm1 hP1 hB1 hB2 hS
  go_wp2
  go_loopw [3, 15] (fun o i wr => ∃ k : Nat, k ≤ xs.length ∧ i = .int .i64 (k : Int) ∧ ∃ A c, o = .slice A (touchedOf m (xs.take k)).length c ∧
      wr.ownsRow W2.heap.size 24 1 (.slice A (touchedOf m (xs.take k)).length c) (touchedOf m (xs.take k)).length (ucells (touchedOf m (xs.take k))) ∧ Below W2.heap.size W2 wr) (fun _ i _ => xs.length - (intOf i).toNat)
  case atStart => exact ⟨0, Nat.zero_le _, rfl, none, 0, rfl, World.ownsRow_nil _ _ _ _, Below.refl _ _⟩
  case round =>
    obtain ⟨k, hk, rfl, A, c, rfl, hO, hB⟩ := hrel
    have hP3 := hP2.below hB (Nat.le_refl _)
    have c2 : wr.cell? ⟨p, 2, none⟩ = some (.map (some bm)) := (hP3.blk.cell 2).trans rfl
    by_cases hlt : k < xs.length
    · obtain ⟨x, hx⟩ : ∃ x, x = xs[k] := ⟨_, rfl⟩
      have hx64 : x < 18446744073709551616 := by rw [hx]; exact HS.out.2.1 _ (List.getElem_mem hlt)
      obtain ⟨b, off, rfl, hb, hrg⟩ := hR2.range (by omega)
      have hcell : wr.cell? ⟨b, off + k, none⟩ = some (.int .u64 ((x : Nat) : Int)) := (hB.cell (p := ⟨b, off + k, none⟩) hb).trans (hrg k _ (by simp [ucells, hlt, hx]))
      have htk : xs.take (k + 1) = xs.take k ++ [x] := by rw [List.take_succ_eq_append_getElem hlt, hx]
      have hsn := touchedOf_snoc m (xs.take k) x
      rw [← htk] at hsn
      have HSN := Lib.hid hsn
      have hll := touchedOf_len m (xs.take k)
      rw [List.length_take] at hll
      have hlk := hP3.look x hx64
      clear hsn htk hx
      cases hp : pg x with
      | none =>
        rw [hp] at hlk
        have hz : Hid (someB (pageOf m x) = false) := Lib.hid (by rw [pageOf_zero m x (hP3.zero x hp), someB_zero])
        have hcall := cfNil wr
        go_wp2_with fail
        refine hcall.mono ?_
        rintro e w' ⟨rfl, rfl⟩
        clear hcall hlk
        go_wp2
        have e2 : touchedOf m (xs.take (k + 1)) = touchedOf m (xs.take k) := by rw [HSN.out, hz.out]; simp
        go_roundw
        case rel => exact ⟨k + 1, by omega, by go_num, A, c, by rw [e2], by rw [e2]; exact hO, hB⟩
        case measure => simp [intOf]; omega
      | some g =>
        rw [hp] at hlk
        obtain ⟨r1, r2, r3⟩ := hP3.rows x g hp
        have hrd : Rd wr wr.heap.size 1 (some ⟨g, 0, none⟩) 4096 (bcells (pageOf m x)) := r1.rd (size := 1) (n := 4096) (by rw [List.size_toArray, bcells_length, pageOf_length])
        have hcall := containsF_walk (some ⟨g, 0, none⟩) 4096 4096 (pageOf m x) wr hrd (by omega)
        obtain ⟨S, hSe⟩ : ∃ S, S = someB (pageOf m x) := ⟨_, rfl⟩
        rw [← hSe] at hcall
        have HSE := Lib.hid hSe
        have hmul : IntKind.u64.wrap ((x : Int) * 4096) = ((4096 * x : Nat) : Int) := by rw [IntWalk.u64_in _ (by omega)]; omega
        unfold pgV at hlk
        clear hrd hSe
        go_wp2_with fail
        refine hcall.mono ?_
        rintro e w' ⟨rfl, rfl⟩
        clear hcall hlk
        cases S with
        | false =>
          go_wp2
          have e2 : touchedOf m (xs.take (k + 1)) = touchedOf m (xs.take k) := by rw [HSN.out, ← HSE.out]; simp
          go_roundw
          case rel => exact ⟨k + 1, by omega, by go_num, A, c, by rw [e2], by rw [e2]; exact hO, hB⟩
          case measure => simp [intOf]; omega
        | true =>
          go_wp2_with (at_builtin; refine wpList_app1 _ elU64 rfl _ _ rfl W2.heap.size A _ c _ rfl hO _ rfl rfl (by omega) (by omega) (by have := hB.size; omega) ?_; intro A3 c3 w3 hO3 hg3 hB3)
          have e2 : touchedOf m (xs.take (k + 1)) = touchedOf m (xs.take k) ++ [4096 * x] := by rw [HSN.out, ← HSE.out]; simp
          have e3 : (touchedOf m (xs.take (k + 1))).length = (touchedOf m (xs.take k)).length + 1 := by rw [e2]; simp
          go_roundw
          case rel => exact ⟨k + 1, by omega, by go_num, A3, c3, by rw [e3], by rw [e3, e2, ucells, List.map_append]; exact hO3, hB.trans hB3⟩
          case measure => simp [intOf]; omega
    · have hfin : xs.take k = xs := List.take_of_length_le (by omega)
      rw [hfin] at hO
      have hll := touchedOf_len m xs
      have hrd := Rd.of_own hO
      have hti := touchedIs_of hP2 HS.out
      rw [hfin]
      clear hfin
      go_wp2
      go_ret
      exact ⟨_, A, c, hti, by omega, rfl, hrd, hB2'.trans (hB.mono (by have := hB2'.size; omega))⟩
end Go.Proofs.YtipdmhppadapkaaGreatDoor
/-
  Plain: zeros in memory. Walk: (*Mem).Zero.
-/
namespace Go.Proofs.YtipdmhppadapkaaGreatDoor
open Go.RowKit

theorem chg_tr {Z Z' : Nat → Prop} {a b c : World} (h : Chg Z a b) (k : Chg Z' b c) (hz : ∀ i, i < a.heap.size → Z' i → Z i) : Chg Z a c :=
  ⟨k.os.trans h.os, k.tape.trans h.tape, k.output.trans h.output, Nat.le_trans h.size k.size, fun i hi hn => (k.block i (Nat.lt_of_lt_of_le hi h.size) (fun e => hn (hz i hi e))).trans (h.block i hi hn)⟩
theorem chg_turned {w w' : World} {b : Nat} (h : w.mapTurned w' b) : Chg (fun k => k = b) w w' := by
  exact Chg.grown h.grown (fun k e => (Option.some.inj e).symm)
theorem reg_loadPM {P : Program} {o : Oper} {a : Act} {w : World} (ty : TypeId) (t : Tmp) (ho : o.op = .load ty (.tmp t)) {b off : Nat} {cs : Array Value} (he : a.tmps[t]?.getD undef = .pointer (some ⟨b, off, none⟩))
    (h : w.rangeAt b off cs.toList) {d : TypeDesc} (hu : P.underlying ty = some d) (hd : d.isRow = true) (hi : (P.info? ty).map (·.size) = some cs.size) :
    (execOp a.eval o).run P w = .ok (.value (.agg cs)) w := by
  have := run_loadAt_mid (P := P) w b off ty cs.toList d h hu hd (by simpa using hi)
  simp [execOp, ho, Act.eval, he, this]
/-- zeros in s -/
def clrM (m : Mm) (s : Sp) : Mm := fun x => if s.has x then 0 else m x
/-- zeros in those pages that have come -/
def midM (m : Mm) (s : Sp) (left : Lit → Bool) : Mm := fun x => if left (litU (x / 4096)) then m x else clrM m s x
/-- what Zero answers, and what it leaves -/
def zErr (ram s : Sp) : Int := if s.within ram then 0 else 90
def zV (ram : Sp) (m : Mm) (s : Sp) : Mm := if s.within ram then clrM m s else m
theorem midM_end (m : Mm) (s : Sp) {left : Lit → Bool} (h : ∀ kl, left kl = false) : midM m s left = clrM m s := by
  funext x; simp [midM, h]
theorem midM_strike (m : Mm) (s : Sp) (left : Lit → Bool) (k : Nat) : midM m s (fun z => left z && !z.sameKey (litU k)) = fun y => if y / 4096 = k then clrM m s y else midM m s left y := by
  funext y
  simp only [midM, sameKey_litU]
  by_cases h : y / 4096 = k
  · simp [h]
  · simp [h]
theorem midM_left (m : Mm) (s : Sp) {left : Lit → Bool} {k : Nat} (hl : left (litU k) = true) {y : Nat} (hy : y / 4096 = k) : midM m s left y = m y := by
  simp [midM, hy, hl]
theorem midM_skip (m : Mm) (s : Sp) {left : Lit → Bool} {k : Nat} (hl : left (litU k) = true) (h : ∀ y, y / 4096 = k → s.has y = false) : midM m s (fun z => left z && !z.sameKey (litU k)) = midM m s left := by
  rw [midM_strike]; funext y
  by_cases hy : y / 4096 = k
  · rw [if_pos hy, midM_left m s hl hy, clrM, h y hy]; rfl
  · rw [if_neg hy]
theorem midM_write (m : Mm) (s : Sp) {left : Lit → Bool} {k : Nat} (hl : left (litU k) = true) (o n : Nat) (hon : o + n ≤ 4096) (h : ∀ i, i < 4096 → (s.has (4096 * k + i) = true ↔ o ≤ i ∧ i < o + n)) :
    midM m s (fun z => left z && !z.sameKey (litU k)) = writeM (midM m s left) (4096 * k + o) (List.replicate n 0) := by
  rw [midM_strike]; funext y
  by_cases hy : y / 4096 = k
  · rw [if_pos hy, clrM]
    have hi := h (y % 4096) (by omega)
    rw [show 4096 * k + y % 4096 = y by omega] at hi
    unfold writeM
    rw [List.length_replicate]
    by_cases hs : s.has y = true
    · have := hi.1 hs
      rw [if_pos hs, if_pos (by omega), List.getElem?_replicate, if_pos (by omega)]; rfl
    · have : ¬ (o ≤ y % 4096 ∧ y % 4096 < o + n) := fun e => hs (hi.2 e)
      rw [if_neg hs, if_neg (by omega), midM_left m s hl hy]
  · rw [if_neg hy, writeM_out]
    rw [List.length_replicate]; omega
theorem midM_gone (m : Mm) (s : Sp) {left : Lit → Bool} {k : Nat} (h : ∀ i, i < 4096 → s.has (4096 * k + i) = true) (i : Nat) (hi : i < 4096) : midM m s (fun z => left z && !z.sameKey (litU k)) (4096 * k + i) = 0 := by
  rw [midM_strike]
  show (if (4096 * k + i) / 4096 = k then clrM m s (4096 * k + i) else _) = 0
  rw [if_pos (by omega), clrM, if_pos (h i hi)]
theorem midM_rest (m : Mm) (s : Sp) {left : Lit → Bool} {k : Nat} (y : Nat) (hy : y / 4096 ≠ k) : midM m s (fun z => left z && !z.sameKey (litU k)) y = midM m s left y := by
  rw [midM_strike]
  show (if y / 4096 = k then _ else _) = _
  rw [if_neg hy]
theorem pageOf_congr {m m' : Mm} {k : Nat} (h : ∀ y, y / 4096 = k → m' y = m y) : pageOf m' k = pageOf m k := by
  unfold pageOf
  refine List.map_congr_left fun i hi => h _ ?_
  have := List.mem_range.1 hi
  omega
theorem has_of_pg {w : World} {p : Nat} {ram : Sp} {m : Mm} {F : Nat → Prop} {N bm : Nat} {D : DataW Unit} {pg : Nat → Option Nat} (h : PM w p ram m F N bm D pg) {k g : Nat} (hp : pg k = some g) : Maps.has D (litU k) = true := by
  have h1 := (h.rows k g hp).2.2
  exact Maps.has_true_of_atKey (y := .lit (.int .i64 (g : Int))) fun zd => by
    have h2 := h.at_ k zd (by omega)
    unfold pgAt at h2
    rw [hp] at h2
    exact h2
theorem midM_start {w : World} {p : Nat} {ram : Sp} {m : Mm} {F : Nat → Prop} {N bm : Nat} {D : DataW Unit} {pg : Nat → Option Nat} (h : PM w p ram m F N bm D pg) (s : Sp) : midM m s (Maps.has D) = m := by
  funext y
  unfold midM
  cases hh : Maps.has D (litU (y / 4096)) with
  | true => rfl
  | false =>
    have hp : pg (y / 4096) = none := by
      cases hp : pg (y / 4096) with
      | none => rfl
      | some g => rw [has_of_pg h hp] at hh; cases hh
    have h0 := h.zero _ hp (y % 4096) (by omega)
    rw [show 4096 * (y / 4096) + y % 4096 = y by omega] at h0
    show clrM m s y = m y
    unfold clrM
    rw [h0]; split <;> rfl
/-- a page goes -/
theorem PM.drop {w w' : World} {p : Nat} {ram : Sp} {m : Mm} {F : Nat → Prop} {N bm : Nat} {D : DataW Unit} {pg : Nat → Option Nat} (h : PM w p ram m F N bm D pg) (k : Nat) (ht : w.mapTurned w' bm) (hown : w'.ownsMap Tryz.prog 24 pgE bm N (D.del (litU k)))
    (m' : Mm) (h1 : ∀ y, y / 4096 ≠ k → m' y = m y) (h0 : ∀ i, i < 4096 → m' (4096 * k + i) = 0) : PM w' p ram m' F N bm (D.del (litU k)) (fun x => if x = k then none else pg x) := by
  have hc := chg_turned ht
  have hb : ∀ b, b ≠ bm → b < w.heap.size → w'.heap[b]? = w.heap[b]? := fun b hb hl => hc.block b hl hb
  refine ⟨(hb p h.ne_pm h.blk.lt).trans h.blk, hown, fun x zd hx => ?_, fun x gx hx => ?_, fun x hx i hi => ?_, fun x y gx hx hy => ?_, h.fp, h.fm, fun b hF => Nat.lt_of_lt_of_le (h.flt b hF) hc.size⟩
  · by_cases e : x = k
    · subst e
      rw [show (Lit.int .u64 (x : Int)) = litU x from rfl, Maps.atKey_del_same]
      simp [pgAt]
    · rw [Maps.atKey_del_other (fun e2 => e (by unfold litU at e2; injection e2 with _ e2; omega)), h.at_ x zd hx]
      simp [pgAt, e]
  · by_cases e : x = k
    · simp [e] at hx
    · simp only [if_neg e] at hx
      obtain ⟨r1, r2, r3⟩ := h.rows x gx hx
      exact ⟨(hb gx (h.ne_gm hx) r1.lt).trans (by rw [pageOf_congr (fun y hy => h1 y (by omega))]; exact r1), r2, r3⟩
  · by_cases e : x = k
    · subst e; exact h0 i hi
    · simp only [if_neg e] at hx
      rw [h1 _ (by omega)]; exact h.zero x hx i hi
  · by_cases e : x = k
    · simp [e] at hx
    · by_cases e2 : y = k
      · simp [e2] at hy
      · simp only [if_neg e] at hx
        simp only [if_neg e2] at hy
        exact h.inj x y gx hx hy
theorem clear_page {w : World} {p : Nat} {ram : Sp} {m : Mm} {F : Nat → Prop} {N bm : Nat} {D : DataW Unit} {pg : Nat → Option Nat} (h : PM w p ram m F N bm D pg) {k g : Nat} (hp : pg k = some g) (o n c : Nat) (hn : 0 < n) (hon : o + n ≤ 4096) :
    ∃ w', (∀ ty, (Builtin.clear_ #[22] ty #[.slice (some ⟨g, o, none⟩) n c]).run Tryz.prog w = .ok (.tuple #[]) w') ∧ w.grownBy w' (some g) ∧ PM w' p ram (writeM m (4096 * k + o) (List.replicate n 0)) F N bm D pg := by
  have hb := (h.rows k g hp).1
  have hsz : (bcells (pageOf m k)).toArray.size = 4096 := by rw [List.size_toArray, bcells_length, pageOf_length]
  obtain ⟨h1, h2, _⟩ := Blk.setCells (List.replicate n (Value.int .u8 0)) o w _ hb (by rw [List.length_replicate, hsz]; exact hon)
  refine ⟨_, fun ty => Lib.run_clear_slice w _ _ ty (.int .u8 0) Tryz.underlying22 (fun w => by kernel_rfl) rfl rfl g o n c hn (fun j hj => ?_) (fun j _ => hb.frozen _), h2, h.put hp (by rw [List.length_replicate]; exact hon) h2 ?_⟩
  · rw [hb.cell, Array.getElem?_eq_getElem (by rw [hsz]; omega)]; rfl
  · have e : List.replicate n (Value.int .u8 0) = (bcells (List.replicate n 0)).take n := by simp [bcells]
    rw [List.toList_toArray] at h1
    have h5 : splice (bcells (pageOf m k)) o (List.replicate n (Value.int .u8 0)) = bcells ((pageOf m k).take o ++ List.replicate n 0 ++ (pageOf m k).drop (o + (List.replicate n (0 : UInt8)).length)) := by
      rw [e, splice_bytes _ _ _ _ (by simp)]
      rw [show (List.replicate n (0 : UInt8)).take n = List.replicate n 0 by simp]
    rw [h5] at h1
    exact h1
end Go.Proofs.YtipdmhppadapkaaGreatDoor
/-
  Walk: (*Mem).Zero.
-/
namespace Go.Proofs.YtipdmhppadapkaaGreatDoor
open Go.RowKit

set_option maxRecDepth 100000 in
set_option maxHeartbeats 2000000 in
theorem mzero_any (p : Nat) (ram : Sp) (okr : ram.ok) (hr40 : ram.base + ram.size ≤ 1099511627776) (m : Mm) (F : Nat → Prop) (N : Nat) (s : Sp) (oks : s.ok) (w : World) (hM : PMem w p ram m F N) :
    Calls Tryz.prog 63 #[.pointer (some ⟨p, 0, none⟩), .agg s.cells] w fun e w' => e = .returned (.int .i64 (zErr ram s)) ∧ MAfter w w' p ram (zV ram m s) F N := by
  obtain ⟨bm, D, pg, hP⟩ := hM
  have hFlt := hP.flt
  have B1 : Below w.heap.size w (w.alloc (.cells s.cells 61)) := (Below.refl _ _).alloc (Nat.le_refl _) _
  have hbS := Blk.new w 61 s.cells
  have hP1 := hP.below B1 (Nat.le_refl _)
  have hPb := hP1.blk
  obtain ⟨c0, c1⟩ := sp_cells hbS
  go_enter Tryz.func63, Tryz.ntmps63
  go_wp2_with fail
  generalize w.alloc (.cells s.cells 61) = W1 at *
  refine Flow.wp_region_flow (W1.heap.size) [] [] (by kernel_rfl) (by kernel_rfl) (Nat.le_refl _) (fun _ h => by cases h) Flow.facts_nil ?_
  refine Flow.pass_old (X := .pointer (some ⟨p, 0, none⟩)) 0 (Flow.met_none rfl) (.inl rfl) (by kernel_rfl) (by kernel_rfl) rfl ?_
  refine Flow.pass_val (.bool false) (Flow.met_none rfl) (fun a W hH => ?_) ?_
  · have e0 := Flow.see_new 10 0 hH.sees (by kernel_rfl) (by kernel_rfl) rfl rfl
    have hq := ptrNe p W; go_simp; first | done | rfl
  refine Flow.pass_copy 11 1 (Flow.met_none rfl) (.inl rfl) (by kernel_rfl) (by kernel_rfl) rfl rfl (fun _ _ => Flow.kept_eqs _ _) ?_
  refine Flow.pass_val (.agg s.cells) (Flow.met_some 2 false 12 rfl rfl (by kernel_rfl) (by kernel_rfl) rfl rfl) (fun a W hH => ?_) ?_
  · have e0 := Flow.see_old 3 hH.sees (by kernel_rfl) (by kernel_rfl) rfl
    exact reg_load 61 _ rfl e0 (hbS.drew.below hH.below hbS.lt) Tryz.underlying61 rfl infSpan
  refine Flow.pass_old (X := .pointer (some ⟨p, 0, none⟩)) 0 (Flow.met_some 2 false 12 rfl rfl (by kernel_rfl) (by kernel_rfl) rfl rfl) (.inl rfl) (by kernel_rfl) (by kernel_rfl) rfl ?_
  refine Flow.pass_val (.pointer (some ⟨p, 0, none⟩)) (Flow.met_some 2 false 12 rfl rfl (by kernel_rfl) (by kernel_rfl) rfl rfl) (fun a W hH => ?_) ?_
  · have e0 := Flow.see_new 14 4 hH.sees (by kernel_rfl) (by kernel_rfl) rfl rfl
    go_simp; first | done | rfl
  refine Flow.pass_val (.pointer (some ⟨p, 0, none⟩)) (Flow.met_some 2 false 12 rfl rfl (by kernel_rfl) (by kernel_rfl) rfl rfl) (fun a W hH => ?_) ?_
  · have e0 := Flow.see_new 15 5 hH.sees (by kernel_rfl) (by kernel_rfl) rfl rfl
    go_simp; first | done | rfl
  refine Flow.pass_val (.agg ram.cells) (Flow.met_some 2 false 12 rfl rfl (by kernel_rfl) (by kernel_rfl) rfl rfl) (fun a W hH => ?_) ?_
  · have e0 := Flow.see_new 16 6 hH.sees (by kernel_rfl) (by kernel_rfl) rfl rfl
    exact reg_loadPM 61 _ rfl e0 (pm_ram (hPb.drew.below hH.below hPb.lt)) Tryz.underlying61 rfl infSpan
  refine Flow.pass_step (Reg.eqs (.bool (s.within ram))) (fun _ _ => Flow.kept_eqs _ _) (Flow.met_some 2 false 12 rfl rfl (by kernel_rfl) (by kernel_rfl) rfl rfl) (fun a W hH => ?_) ?_
  · have e0 := Flow.see_new 13 3 hH.sees (by kernel_rfl) (by kernel_rfl) rfl rfl
    have e1 := Flow.see_new 17 7 hH.sees (by kernel_rfl) (by kernel_rfl) rfl rfl
    refine Reg.wp_call rfl Tryz.func100 rfl (by kernel_rfl) (by simp [Act.eval, e0, e1]) (within_any s ram oks okr W) ?_
    rintro e w' ⟨rfl, hB⟩
    exact ⟨_, rfl, _, rfl, hB, rfl⟩
  refine Flow.pass_val (.bool (!(s.within ram))) (Flow.met_some 2 false 12 rfl rfl (by kernel_rfl) (by kernel_rfl) rfl rfl) (fun a W hH => ?_) ?_
  · have e0 := Flow.see_new 18 8 hH.sees (by kernel_rfl) (by kernel_rfl) rfl rfl
    go_simp; first | done | rfl
  refine Flow.pass_val (.bool (!(s.within ram))) (Flow.met_none rfl) (fun a W hH => ?_) ?_
  · have e0 := Flow.see_new 12 2 hH.sees (by kernel_rfl) (by kernel_rfl) rfl rfl
    have e1 := Flow.see_new 19 9 hH.sees (by kernel_rfl) (by kernel_rfl) rfl rfl
    go_simp; first | done | rfl
  refine Flow.pass_end [none, none, none, none, none, none, none, none, none, none, some 10, some 11, some 12, some 13, some 14, some 15, some 16, some 17, some 18, some 19, some 20, none, none, none, none, none, none, none, none, none, none, none, none, none, none, none, none, none, none, none, none, none, none, none, none, none, none, none, none, none, none, none, none, none, none, none, none, none, none, none, none, none, none, none, none, none, none, none, none, none, none, none, none, none, none, none, none, none] (by kernel_rfl) ?_
  intro f gg w9 hB hfa hT hfg
  have h20 : f 20 = _ := (hfg 20 10 (by kernel_rfl)).trans (hT 10 _ (by kernel_rfl) rfl)
  simp only [Reg.sel, h20]
  have Bw : Below W1.heap.size W1 w9 := (Below.refl _ _).drew.trans hB
  have B9 := B1.trans (Bw.mono B1.size)
  have hP9 := hP1.below Bw (Nat.le_refl _)
  have hbS9 := hbS.below Bw hbS.lt
  obtain ⟨q, hq⟩ : ∃ q, q = s.within ram := ⟨_, rfl⟩
  rw [← hq]
  have HQ := Lib.hid hq
  have hf10 := f 10
  clear hT hfg hfa h20 hB hP1 hPb hbS c0 c1 hP B1 Bw hf10 hq
  obtain ⟨c0, c1⟩ := sp_cells hbS9
  cases q with
  | false =>
    go_wp2
    go_ret
    have hz1 : zErr ram s = 90 := by rw [zErr, ← HQ.out]; rfl
    have hz2 : zV ram m s = m := by rw [zV, ← HQ.out]; rfl
    rw [hz1, hz2]
    exact ⟨rfl, F, ⟨_, _, _, hP9⟩, Chg.of_ext B9, fun _ h => h, fun _ h => .inl h⟩
  | true =>
    obtain ⟨hsg, _, hs1, hs2⟩ : s.good = true ∧ ram.good = true ∧ ram.base ≤ s.base ∧ s.base + s.size ≤ ram.base + ram.size := by
      have := HQ.out.symm
      unfold Sp.within at this
      exact of_decide_eq_true this
    have hg := Sp.good_iff.1 hsg
    obtain ⟨L, hL⟩ : ∃ L, L = s.last := ⟨_, rfl⟩
    have hL2 : L = s.base + s.size - 1 := by rw [hL, Sp.last, if_pos hsg]
    have HL2 := Lib.hid hL2
    have hHas : Hid (∀ y, s.has y = true ↔ s.base ≤ y ∧ y ≤ L) := Lib.hid (fun y => by unfold Sp.has; rw [decide_eq_true_iff]; omega)
    have hlast := last_any s oks w9
    rw [← hL] at hlast
    have HG := Lib.hid hg
    have hLr : L < 18446744073709551616 ∧ s.base ≤ L := by omega
    have HLR := Lib.hid hLr
    clear hL hsg hg hs1 hL2 hLr
    go_wp2_with ((with_reducible refine at_load 61 ?_); refine wpList_loadAll _ rfl 61 _ rfl w.heap.size 61 s.cells hbS9 _ rfl Tryz.underlying61 rfl infSpan ?_)
    refine hlast.mono ?_
    rintro e W2 ⟨rfl, hB2⟩
    have hbS2 := hbS9.below hB2 hbS9.lt
    have hP2 := hP9.below hB2 (Nat.le_refl _)
    have B2 := B9.trans (hB2.mono B9.size)
    clear hlast hbS9 hP9 B9 hB2 c0 c1
    have c2 : W2.cell? ⟨p, 2, none⟩ = some (.map (some bm)) := (hP2.blk.cell 2).trans rfl
    have hmS : Hid (midM m s (Maps.has D) = m) := Lib.hid (midM_start hP2 s)
    go_wp2_with (first
      | (at_range; refine wpList_range_own _ rfl _ MT rfl 24 22 keyU Tryz.underlying121 pgE bm N _ rfl hP2.own ?_; intro w0 hrg0 hg0 hs0)
      | go_in)
    go_frame
    have hP0 := hP2.keep hg0.size (fun b hb => hg0.block b (hP2.flt b hb) (fun e => by cases e))
    have hbS0 : Blk w0 w.heap.size 61 s.cells := hbS2.grown hg0 (fun e => by cases e)
    have C0 : Chg F w w0 := Chg.of_ext (B2.trans (Below.mono ⟨hg0.os, hg0.tape, hg0.output, hg0.size, fun k hk => hg0.block k hk (fun e => by cases e)⟩ B2.size))
    have hrl := hbS2.lt
    generalize W2.heap.size = r at *
    rw [← hmS.out] at hP0
    clear hP2 hbS2 B2 c2 hg0 hs0
    go_loopw [6] (fun _ wr => ∃ (left : Lit → Bool) (cnt : Nat) (D' : DataW Unit) (pg' : Nat → Option Nat), wr.ranges Tryz.prog 24 pgE bm r N D' left cnt ∧ PM wr p ram (midM m s left) F N bm D' pg' ∧ Blk wr w.heap.size 61 s.cells ∧ Chg F w wr) (fun _ wr => wr.rangeLeft bm r)
    case atStart => exact ⟨_, _, _, _, hrg0, hP0, hbS0, C0⟩
    case round =>
      obtain ⟨left, cnt, D', pg', hrg, hP3, hbS3, C3⟩ := hrel
      go_wp2_with (first
        | (at_next; refine wpList_next_ranges _ rfl _ rfl 24 keyU pgE (fun x : Ku => Value.int .u64 ((x.1 : Nat) : Int)) id (fun key kl hk => by obtain ⟨x, hx, _⟩ := keyU_inv hk; exact ⟨x, hx⟩) (fun v _ _ => ⟨v, rfl⟩) bm r N _ _ _ rfl hrg ?_ ?_)
        | go_in)
      · intro hc0 hl0
        go_wp2
        go_ret
        have hz1 : zErr ram s = 0 := by rw [zErr, ← HQ.out]; rfl
        have hz2 : zV ram m s = clrM m s := by rw [zV, ← HQ.out]; rfl
        rw [hz1, hz2]
        rw [midM_end m s hl0] at hP3
        exact ⟨rfl, F, ⟨_, _, _, hP3⟩, C3, fun _ h => h, fun _ h => .inl h⟩
      · intro k hk64 c kl yd yp w3 cnt3 hkey hlk hv hat hrg3 hlt hg3 hs3 hen
        obtain ⟨x', ex, hkl⟩ := keyU_inv hkey
        have hkx : x'.1 = k := by injection ex with _ ex; omega
        rw [hkx] at hkl
        subst hkl
        clear ex hkx
        have hgk : ∃ g, c = pgV g ∧ pg' k = some g := by
          have h1 := fun zd => (hP3.at_ k zd hk64).symm.trans (hat zd)
          rcases pgE_inv hv with ⟨g, h2, h3⟩ | ⟨h2, h3⟩
          · refine ⟨g, h2, ?_⟩
            injection h3 with h3 _
            have h4 := h1 .nil
            unfold pgAt at h4
            cases hp : pg' k with
            | none => rw [hp, h3] at h4; cases h4
            | some g' =>
              rw [hp, h3] at h4
              simp only [DataW.lit.injEq, Lit.int.injEq, true_and] at h4
              rw [show g' = g by omega]
          · exfalso
            injection h3 with h3 _
            have h4 := h1 (.lit (.bool true))
            unfold pgAt at h4
            cases hp : pg' k with
            | none => rw [hp, h3] at h4; cases h4
            | some g' => rw [hp, h3] at h4; cases h4
        obtain ⟨g, rfl, hpk⟩ := hgk
        have hl := hlk
        have HLK := Lib.hid hl
        have hk52 := (hP3.rows k g hpk).2.2
        have hP4 := hP3.chg (Chg.grown hg3 (Z := fun b => b = r) (fun b e => (Option.some.inj e).symm)) (fun b hF e => by have := hFlt b hF; omega)
        have hbS4 := hbS3.grown hg3 (fun e => by have := Option.some.inj e; omega)
        have C4 : Chg F w w3 := chg_tr C3 (Chg.grown hg3 (Z := fun b => b = r) (fun b e => (Option.some.inj e).symm)) (fun i hi e => by have e2 : i = r := e; have := C3.size; omega)
        have HM : Hid (wr.rangeLeft bm r = cnt) := Lib.hid hrg.left_eq
        have HLT := Lib.hid hlt
        obtain ⟨f0, hf0⟩ : ∃ f0, f0 = 4096 * k := ⟨_, rfl⟩
        have hk1 : IntKind.u64.wrap ((k : Int) * 4096) = (f0 : Int) := by rw [IntWalk.u64_in _ (by omega)]; omega
        obtain ⟨T, hk2⟩ : ∃ T, IntKind.u64.wrap ((f0 : Int) + 4096) = T := ⟨_, rfl⟩
        have hk3 : IntKind.u64.wrap (T - 1) = ((f0 + 4095 : Nat) : Int) := by
          rw [← hk2]
          rcases Nat.lt_or_ge (f0 + 4096) 18446744073709551616 with h | h
          · rw [IntWalk.u64_in ((f0 : Int) + 4096) (by omega), IntWalk.u64_in _ (by omega)]; omega
          · obtain rfl : f0 = 18446744073709547520 := by omega
            decide +kernel
        obtain ⟨c0, c1⟩ := sp_cells hbS4
        clear hkey hlk hv hat hlt hg3 hs3 hl hrg hP3 hbS3 C3
        unfold pgV at *
        have hskip : (f0 + 4095 < s.base ∨ L < f0) → Hid (midM m s (fun z => left z && !z.sameKey (litU k)) = midM m s left) := fun h => Lib.hid (midM_skip m s HLK.out (fun y hy => by
          cases hh : s.has y with
          | false => rfl
          | true => have := (hHas.out y).1 hh; omega))
        by_cases hA : f0 + 4095 < s.base
        · have HS := hskip (.inl hA)
          have ia : ((f0 + 4095 : Nat) : Int) < (s.base : Int) := by omega
          clear hskip hf0
          go_wp2
          go_roundw
          case rel => exact ⟨_, cnt3, D', pg', hrg3, by rw [HS.out]; exact hP4, hbS4, C4⟩
          case measure => rw [hrg3.left_eq, HM.out]; exact HLT.out
        by_cases hB : L < f0
        · have HS := hskip (.inr hB)
          have ia : ¬ ((f0 + 4095 : Nat) : Int) < (s.base : Int) := by omega
          have ib : (L : Int) < (f0 : Int) := by omega
          clear hskip hf0
          go_wp2
          go_roundw
          case rel => exact ⟨_, cnt3, D', pg', hrg3, by rw [HS.out]; exact hP4, hbS4, C4⟩
          case measure => rw [hrg3.left_eq, HM.out]; exact HLT.out
        have ia : ¬ ((f0 + 4095 : Nat) : Int) < (s.base : Int) := by omega
        have ib : ¬ (L : Int) < (f0 : Int) := by omega
        clear hskip
        by_cases hC : s.base ≤ f0 ∧ f0 + 4095 ≤ L
        · have ic : (s.base : Int) ≤ (f0 : Int) := by omega
          have id : ((f0 + 4095 : Nat) : Int) ≤ (L : Int) := by omega
          have c2 : w3.cell? ⟨p, 2, none⟩ = some (.map (some bm)) := (hP4.blk.cell 2).trans rfl
          have HC := Lib.hid (show f0 = 4096 * k ∧ s.base ≤ f0 ∧ f0 + 4095 ≤ L from ⟨hf0, hC⟩)
          have hkm := keyU_mk k hk64
          clear hA hB hC hf0
          go_wp2_with (at_delete; refine wpList_delete_ranges _ rfl _ _ MT 24 rfl 22 keyU Tryz.underlying121 pgE bm r N _ _ _ rfl hrg3 (.int .u64 (k : Int)) (litU k) rfl hkm ?_; intro w4 cnt4 hrg4 hle hturn)
          rw [Maps.strike_twice] at hrg4
          have hc := chg_turned hturn
          have hfm := hFlt _ hP4.fm
          have hP5 := hP4.drop k hturn hrg4.owns (midM m s (fun z => left z && !z.sameKey (litU k))) (fun y hy => midM_rest m s y hy) (fun i hi => midM_gone m s (fun i hi => by have := HC.out; rw [hHas.out]; omega) i hi)
          have hbS5 : Blk w4 w.heap.size 61 s.cells := (hc.block _ hbS4.lt (by omega)).trans hbS4
          have C5 : Chg F w w4 := chg_tr C4 hc (fun i hi e => by have e2 : i = bm := e; exact e2 ▸ hP4.fm)
          go_roundw
          case rel => first | exact ⟨_, cnt4, _, _, hrg4, hP5, hbS5, C5⟩ | exact ⟨_, cnt4, _, hrg4, ⟨_, hP5⟩, hbS5, C5⟩
          case measure => rw [hrg4.left_eq, HM.out]; have := HLT.out; omega
        have hgr : g ≠ r := fun e => by have := hFlt g (hP4.rows k g hpk).2.1; omega
        have hgw : g < w.heap.size := hFlt g (hP4.rows k g hpk).2.1
        have hgb : g ≠ bm := hP4.ne_gm hpk
        have hend : ∀ o n, 0 < n → o + n ≤ 4096 → (∀ i, i < 4096 → (s.has (4096 * k + i) = true ↔ o ≤ i ∧ i < o + n)) → ∃ w4, (∀ ty, (Builtin.clear_ #[22] ty #[.slice (some ⟨g, o, none⟩) n (4096 - o)]).run Tryz.prog w3 = .ok (.tuple #[]) w4) ∧
            w4.ranges Tryz.prog 24 pgE bm r N D' (fun z => left z && !z.sameKey (litU k)) cnt3 ∧ PM w4 p ram (midM m s (fun z => left z && !z.sameKey (litU k))) F N bm D' pg' ∧ Blk w4 w.heap.size 61 s.cells ∧ Chg F w w4 := by
          intro o n h1 h2 h3
          obtain ⟨w4, h4, h5, h6⟩ := clear_page hP4 hpk o n (4096 - o) h1 h2
          refine ⟨w4, fun ty => h4 ty, hrg3.kept h5 (fun e => hgb (Option.some.inj e).symm) (fun e => hgr (Option.some.inj e).symm), ?_, hbS4.grown h5 (fun e => by have := Option.some.inj e; omega), chg_tr C4 (Chg.grown h5 (Z := fun b => b = g) (fun b e => (Option.some.inj e).symm)) (fun i _ e => by have e2 : i = g := e; exact e2 ▸ (hP4.rows k g hpk).2.1)⟩
          rw [midM_write m s HLK.out o n h2 h3]
          exact h6
        by_cases h1 : f0 < s.base
        · by_cases h2 : L < f0 + 4095
          · obtain ⟨o, ho⟩ : ∃ o, s.base = f0 + o := ⟨s.base - f0, by omega⟩
            obtain ⟨n, hn⟩ : ∃ n, L = f0 + o + n - 1 ∧ 0 < n := ⟨L + 1 - f0 - o, by have := HLR.out; omega, by have := HLR.out; omega⟩
            obtain ⟨w4, hcl, hE⟩ := hend o n hn.2 (by omega) (fun i hi => by rw [hHas.out]; omega)
            have HE := Lib.hid hE
            have ja : (f0 : Int) < (s.base : Int) := by omega
            have jb : (L : Int) < ((f0 + 4095 : Nat) : Int) := by omega
            have jc : (s.base : Int) - (f0 : Int) = (o : Int) := by omega
            have jd : (L : Int) - (f0 : Int) = ((o + n - 1 : Nat) : Int) := by omega
            have je : IntKind.u64.wrap (((o + n - 1 : Nat) : Int) + 1) = ((o + n : Nat) : Int) := by rw [IntWalk.u64_in _ (by omega)]; omega
            have ji : ¬ (s.base : Int) ≤ (f0 : Int) := by omega
            have hsl := fun W => run_slice_lhK (P := Tryz.prog) W 22 (by kernel_rfl) (by kernel_rfl) g 0 4096 4096 o n .u64 .u64 (o : Int) ((o + n : Nat) : Int) rfl rfl (by omega)
            rw [if_neg (by omega), Nat.zero_add] at hsl
            clear hE hA hB hC hf0 ho hn h1 h2 hend
            go_wp2
            have HE := HE.out
            go_roundw
            case rel => exact ⟨_, cnt3, D', pg', HE.1, HE.2.1, HE.2.2.1, HE.2.2.2⟩
            case measure => rw [HE.1.left_eq, HM.out]; exact HLT.out
          · obtain ⟨o, ho⟩ : ∃ o, s.base = f0 + o := ⟨s.base - f0, by omega⟩
            obtain ⟨w4, hcl, hE⟩ := hend o (4096 - o) (by omega) (by omega) (fun i hi => by rw [hHas.out]; omega)
            have HE := Lib.hid hE
            have ja : (f0 : Int) < (s.base : Int) := by omega
            have jb : ¬ (L : Int) < ((f0 + 4095 : Nat) : Int) := by omega
            have jc : (s.base : Int) - (f0 : Int) = (o : Int) := by omega
            have jd : ((f0 + 4095 : Nat) : Int) - (f0 : Int) = 4095 := by omega
            have ji : ¬ (s.base : Int) ≤ (f0 : Int) := by omega
            have hsl := fun W => run_slice_lhK (P := Tryz.prog) W 22 (by kernel_rfl) (by kernel_rfl) g 0 4096 4096 o (4096 - o) .u64 .u64 (o : Int) 4096 rfl (by omega) (by omega)
            rw [if_neg (by omega), Nat.zero_add] at hsl
            clear hE hA hB hC hf0 ho h1 h2 hend
            go_wp2
            have HE := HE.out
            go_roundw
            case rel => exact ⟨_, cnt3, D', pg', HE.1, HE.2.1, HE.2.2.1, HE.2.2.2⟩
            case measure => rw [HE.1.left_eq, HM.out]; exact HLT.out
        · obtain ⟨n, hn⟩ : ∃ n, L = f0 + n - 1 ∧ 0 < n := ⟨L + 1 - f0, by omega, by omega⟩
          obtain ⟨w4, hcl, hE⟩ := hend 0 n hn.2 (by omega) (fun i hi => by rw [hHas.out]; omega)
          have HE := Lib.hid hE
          have ja : ¬ (f0 : Int) < (s.base : Int) := by omega
          have jb : (L : Int) < ((f0 + 4095 : Nat) : Int) := by omega
          have jd : (L : Int) - (f0 : Int) = ((n - 1 : Nat) : Int) := by omega
          have je : IntKind.u64.wrap (((n - 1 : Nat) : Int) + 1) = (n : Int) := by rw [IntWalk.u64_in _ (by omega)]; omega
          have ji : (s.base : Int) ≤ (f0 : Int) := by omega
          have jj : ¬ ((f0 + 4095 : Nat) : Int) ≤ (L : Int) := by omega
          have hsl := fun W => run_slice_lhK (P := Tryz.prog) W 22 (by kernel_rfl) (by kernel_rfl) g 0 4096 4096 0 n .u64 .u64 0 (n : Int) rfl (by omega) (by omega)
          rw [if_neg (by omega), Nat.zero_add] at hsl
          clear hE hA hB hC hf0 hn h1 hend
          go_wp2
          have HE := HE.out
          go_roundw
          case rel => exact ⟨_, cnt3, D', pg', HE.1, HE.2.1, HE.2.2.1, HE.2.2.2⟩
          case measure => rw [HE.1.left_eq, HM.out]; exact HLT.out
end Go.Proofs.YtipdmhppadapkaaGreatDoor
/-
  Walks of the reference: (*Mem).Word, (*Mem).Put.
-/
namespace Go.Proofs.YtipdmhppadapkaaGreatDoor
open Go.RowKit

end Go.Proofs.YtipdmhppadapkaaGreatDoor
/-
  The reference's (*Mem).Zero: plain, and the walk.
-/
namespace Go.Proofs.YtipdmhppadapkaaGreatDoor
open Go.RowKit

def dnAt (ps : List (Nat × Nat)) (i k y : Nat) : Prop := (∃ x ∈ ps.take i, x.1 = y / 4096) ∨ ∃ x, ps[i]? = some x ∧ x.1 = y / 4096 ∧ y % 4096 < k
open Classical in
noncomputable def rM (m : Mm) (s : Sp) (ps : List (Nat × Nat)) (i k : Nat) : Mm := fun y => if dnAt ps i k y then clrM m s y else m y
theorem rM_congr (m : Mm) (s : Sp) (ps : List (Nat × Nat)) {i k i' k' : Nat} (h : ∀ y, dnAt ps i k y ↔ dnAt ps i' k' y) : rM m s ps i k = rM m s ps i' k' := by
  funext y; unfold rM
  by_cases hy : dnAt ps i k y
  · rw [if_pos hy, if_pos ((h y).1 hy)]
  · rw [if_neg hy, if_neg (fun e => hy ((h y).2 e))]
theorem rM_start (m : Mm) (s : Sp) (ps : List (Nat × Nat)) : rM m s ps 0 0 = m := by
  funext y; unfold rM
  rw [if_neg]
  rintro (⟨x, hx, _⟩ | ⟨x, _, _, h⟩)
  · simp at hx
  · omega
theorem rM_next (m : Mm) (s : Sp) (ps : List (Nat × Nat)) (i : Nat) (hi : i < ps.length) : rM m s ps i 4096 = rM m s ps (i + 1) 0 := by
  refine rM_congr m s ps fun y => ⟨?_, ?_⟩
  · rintro (⟨x, hx, h⟩ | ⟨x, hx, h, _⟩)
    · exact .inl ⟨x, by rw [List.take_add_one]; exact List.mem_append_left _ hx, h⟩
    · exact .inl ⟨x, by rw [List.take_add_one, hx]; simp, h⟩
  · rintro (⟨x, hx, h⟩ | ⟨x, _, _, h⟩)
    · rw [List.take_add_one] at hx
      rcases List.mem_append.1 hx with h1 | h1
      · exact .inl ⟨x, h1, h⟩
      · exact .inr ⟨x, by simpa [List.getElem?_eq_getElem hi, eq_comm] using h1, h, by omega⟩
    · omega
theorem rM_end (m : Mm) (s : Sp) (ps : List (Nat × Nat)) (h0 : ∀ k, (∀ x ∈ ps, x.1 ≠ k) → ∀ i, i < 4096 → m (4096 * k + i) = 0) : rM m s ps ps.length 0 = clrM m s := by
  funext y; unfold rM
  by_cases hy : dnAt ps ps.length 0 y
  · rw [if_pos hy]
  · rw [if_neg hy]
    have h := h0 (y / 4096) (fun x hx e => hy (.inl ⟨x, by simpa using hx, e⟩)) (y % 4096) (by omega)
    rw [show 4096 * (y / 4096) + y % 4096 = y by omega] at h
    unfold clrM; rw [h]; split <;> rfl
theorem dn_step (ps : List (Nat × Nat)) {i k : Nat} {x : Nat × Nat} (hx : ps[i]? = some x) (_hk : k < 4096) (y : Nat) : dnAt ps i (k + 1) y ↔ dnAt ps i k y ∨ y = 4096 * x.1 + k := by
  constructor
  · rintro (h | ⟨x', hx', h, hk'⟩)
    · exact .inl (.inl h)
    · rw [hx] at hx'; cases hx'
      by_cases e : y % 4096 < k
      · exact .inl (.inr ⟨x, hx, h, e⟩)
      · exact .inr (by omega)
  · rintro ((h | ⟨x', hx', h, hk'⟩) | h)
    · exact .inl h
    · exact .inr ⟨x', hx', h, by omega⟩
    · exact .inr ⟨x, hx, by omega, by omega⟩
theorem rM_keep (m : Mm) (s : Sp) (ps : List (Nat × Nat)) {i k : Nat} {x : Nat × Nat} (hx : ps[i]? = some x) (hk : k < 4096) (hh : s.has (4096 * x.1 + k) = false) : rM m s ps i (k + 1) = rM m s ps i k := by
  funext y; unfold rM
  by_cases hy : dnAt ps i k y
  · rw [if_pos hy, if_pos ((dn_step ps hx hk y).2 (.inl hy))]
  · rw [if_neg hy]
    by_cases e : y = 4096 * x.1 + k
    · rw [if_pos ((dn_step ps hx hk y).2 (.inr e)), clrM, e, hh]; rfl
    · rw [if_neg (fun h => ((dn_step ps hx hk y).1 h).elim hy e)]
theorem rM_set (m : Mm) (s : Sp) (ps : List (Nat × Nat)) {i k : Nat} {x : Nat × Nat} (hx : ps[i]? = some x) (hk : k < 4096) (hh : s.has (4096 * x.1 + k) = true) : rM m s ps i (k + 1) = writeM (rM m s ps i k) (4096 * x.1 + k) [0] := by
  funext y
  by_cases e : y = 4096 * x.1 + k
  · have h1 := writeM_in (rM m s ps i k) (4096 * x.1 + k) [0] 0 (by simp)
    rw [e]
    refine Eq.trans ?_ h1.symm
    show rM m s ps i (k + 1) (4096 * x.1 + k) = 0
    unfold rM
    rw [if_pos ((dn_step ps hx hk _).2 (.inr rfl)), clrM, hh]; rfl
  · rw [writeM_out _ _ _ _ (by simp only [List.length_cons, List.length_nil]; omega)]
    unfold rM
    by_cases hy : dnAt ps i k y
    · rw [if_pos hy, if_pos ((dn_step ps hx hk y).2 (.inl hy))]
    · rw [if_neg hy, if_neg (fun h => ((dn_step ps hx hk y).1 h).elim hy e)]
theorem set_zero (L : List UInt8) (k : Nat) (hk : k < L.length) : (bcells L).toArray.setIfInBounds k (.int .u8 0) = (bcells (L.take k ++ [0] ++ L.drop (k + 1))).toArray := by
  rw [List.setIfInBounds_toArray]
  congr 1
  rw [List.set_eq_take_append_cons_drop, if_pos (by rw [bcells_length]; exact hk)]
  simp [bcells]
end Go.Proofs.YtipdmhppadapkaaGreatDoor
/-
  Walk of the reference: (*Mem).Zero.
-/
namespace Go.Proofs.YtipdmhppadapkaaGreatDoor
open Go.RowKit

set_option maxRecDepth 100000 in
set_option maxHeartbeats 2000000 in
theorem rzero_any (r : Nat) (ram : Sp) (okr : ram.ok) (m : Mm) (F : Nat → Prop) (N : Nat) (hN : N ≤ 1000000) (s : Sp) (oks : s.ok) (w : World) (hM : RMem w r ram m F N) :
    Calls Tryz.prog 65 #[.pointer (some ⟨r, 0, none⟩), .agg s.cells] w fun e w' => e = .returned (.int .i64 (zErr ram s)) ∧ RAfter w w' r ram (zV ram m s) F N := by
  obtain ⟨ps, A, c, hP, hps⟩ := hM
  have hFlt := hP.flt
  have B1 : Below w.heap.size w (w.alloc (.cells s.cells 61)) := (Below.refl _ _).alloc (Nat.le_refl _) _
  have hbS := Blk.new w 61 s.cells
  have hP1 := hP.below B1 (Nat.le_refl _)
  have hPb := hP1.blk
  go_enter Tryz.func65, Tryz.ntmps65
  go_wp2_with fail
  generalize w.alloc (.cells s.cells 61) = W1 at *
  refine Flow.wp_region_flow (W1.heap.size) [] [] (by kernel_rfl) (by kernel_rfl) (Nat.le_refl _) (fun _ h => by cases h) Flow.facts_nil ?_
  refine Flow.pass_val (.agg s.cells) (Flow.met_none rfl) (fun a W hH => ?_) ?_
  · have e0 := Flow.see_old 3 hH.sees (by kernel_rfl) (by kernel_rfl) rfl
    exact reg_load 61 _ rfl e0 (hbS.drew.below hH.below hbS.lt) Tryz.underlying61 rfl infSpan
  refine Flow.pass_old (X := .pointer (some ⟨r, 0, none⟩)) 0 (Flow.met_none rfl) (.inl rfl) (by kernel_rfl) (by kernel_rfl) rfl ?_
  refine Flow.pass_val (.pointer (some ⟨r, 0, none⟩)) (Flow.met_none rfl) (fun a W hH => ?_) ?_
  · have e0 := Flow.see_new 8 1 hH.sees (by kernel_rfl) (by kernel_rfl) rfl rfl
    go_simp; first | done | rfl
  refine Flow.pass_val (.pointer (some ⟨r, 0, none⟩)) (Flow.met_none rfl) (fun a W hH => ?_) ?_
  · have e0 := Flow.see_new 9 2 hH.sees (by kernel_rfl) (by kernel_rfl) rfl rfl
    go_simp; first | done | rfl
  refine Flow.pass_val (.agg ram.cells) (Flow.met_none rfl) (fun a W hH => ?_) ?_
  · have e0 := Flow.see_new 10 3 hH.sees (by kernel_rfl) (by kernel_rfl) rfl rfl
    exact reg_loadPM 61 _ rfl e0 (pm_ram (hPb.drew.below hH.below hPb.lt)) Tryz.underlying61 rfl infSpan
  refine Flow.pass_step (Reg.eqs (.bool (s.within ram))) (fun _ _ => Flow.kept_eqs _ _) (Flow.met_none rfl) (fun a W hH => ?_) ?_
  · have e0 := Flow.see_new 7 0 hH.sees (by kernel_rfl) (by kernel_rfl) rfl rfl
    have e1 := Flow.see_new 11 4 hH.sees (by kernel_rfl) (by kernel_rfl) rfl rfl
    refine Reg.wp_call rfl Tryz.func101 rfl (by kernel_rfl) (by simp [Act.eval, e0, e1]) (rwithin_any s ram oks okr W) ?_
    rintro e w' ⟨rfl, hB⟩
    exact ⟨_, rfl, _, rfl, hB, rfl⟩
  refine Flow.pass_val (.bool (!(s.within ram))) (Flow.met_none rfl) (fun a W hH => ?_) ?_
  · have e0 := Flow.see_new 12 5 hH.sees (by kernel_rfl) (by kernel_rfl) rfl rfl
    go_simp; first | done | rfl
  refine Flow.pass_end [none, none, none, none, none, none, none, some 7, some 8, some 9, some 10, some 11, some 12, some 13, none, none, none, none, none, none, none, none, none, none, none, none, none, none, none, none, none, none, none, none, none, none, none, none, none, none, none, none, none, none, none, none, none, none, none, none, none, none, none, none, none, none, none, none, none] (by kernel_rfl) ?_
  intro f gg w9 hB hfa hT hfg
  have h13 : f 13 = _ := (hfg 13 6 (by kernel_rfl)).trans (hT 6 _ (by kernel_rfl) rfl)
  simp only [Reg.sel, h13]
  have Bw : Below W1.heap.size W1 w9 := (Below.refl _ _).drew.trans hB
  have B9 := B1.trans (Bw.mono B1.size)
  have hP9 := hP1.below Bw (Nat.le_refl _)
  have hbS9 := hbS.below Bw hbS.lt
  obtain ⟨q, hq⟩ : ∃ q, q = s.within ram := ⟨_, rfl⟩
  rw [← hq]
  have HQ := Lib.hid hq
  clear hT hfg hfa h13 hB hP1 hPb hbS hP B1 Bw hq
  cases q with
  | false =>
    go_wp2
    go_ret
    have hz1 : zErr ram s = 90 := by rw [zErr, ← HQ.out]; rfl
    have hz2 : zV ram m s = m := by rw [zV, ← HQ.out]; rfl
    rw [hz1, hz2]
    exact ⟨rfl, F, ⟨_, _, _, hP9, hps⟩, Chg.of_ext B9, fun _ h => h, fun _ h => .inl h⟩
  | true =>
    have c2 : w9.cell? ⟨r, 2, none⟩ = some (.slice A ps.length c) := (hP9.blk.cell 2).trans rfl
    obtain ⟨n, hn⟩ : ∃ n, n = ps.length := ⟨_, rfl⟩
    have C9 : Chg F w w9 := Chg.of_ext B9
    rw [← rM_start m s ps] at hP9
    have HN := Lib.hid hn
    rw [← hn] at c2
    clear hn
    go_wp2
    go_loopw [19] (fun v wr => ∃ i : Nat, i ≤ n ∧ v = .int .i64 (i : Int) ∧ RM wr r ram (rM m s ps i 0) F ps A c ∧ Blk wr w.heap.size 61 s.cells ∧ Chg F w wr) (fun v _ => n - (intOf v).toNat)
    case atStart => exact ⟨0, Nat.zero_le _, rfl, hP9, hbS9, C9⟩
    case round =>
      obtain ⟨i, hi, rfl, hP3, hbS3, C3⟩ := hrel
      by_cases hin : i < n
      · have hin2 : i < ps.length := by rw [← HN.out]; exact hin
        obtain ⟨x, hx⟩ : ∃ x, ps[i]? = some x := ⟨_, List.getElem?_eq_getElem hin2⟩
        have hxm : x ∈ ps := List.mem_of_getElem? hx
        obtain ⟨pb, po, rfl, hc4, hc5⟩ := hP3.cells hx
        have hc2 : wr.cell? ⟨r, 2, none⟩ = some (.slice (some ⟨pb, po, none⟩) n c) := by rw [HN.out]; exact (hP3.blk.cell 2).trans rfl
        unfold pgV at hc5
        go_wp2
        have hpb0 := hc4
        clear c2 hP9 hc2 hc4 hc5
        obtain ⟨q, hq⟩ : ∃ q, q = 4096 * x.1 := ⟨_, rfl⟩
        have hx52 := (hP3.rows x hxm).2.2
        have HQQ := Lib.hid hq
        have hqb : q + 4096 ≤ 18446744073709551616 := by omega
        have HX := Lib.hid hx
        clear hq hpb0
        go_loopw [31] (fun v wr => ∃ k : Nat, k ≤ 4096 ∧ v = .int .i64 (k : Int) ∧ RM wr r ram (rM m s ps i k) F ps (some ⟨pb, po, none⟩) c ∧ Blk wr w.heap.size 61 s.cells ∧ Chg F w wr) (fun v _ => 4096 - (intOf v).toNat)
        case atStart => exact ⟨0, Nat.zero_le _, rfl, hP3, hbS3, C3⟩
        case round =>
          clear hP3 hbS3 C3
          obtain ⟨k, hk, rfl, hP3, hbS, C3⟩ := hrel
          by_cases hlt : k < 4096
          · obtain ⟨pb', po', e, hc4, hc5⟩ := hP3.cells HX.out
            cases e
            rw [← HQQ.out] at hc4
            have hc2 : wr.cell? ⟨r, 2, none⟩ = some (.slice (some ⟨pb, po, none⟩) n c) := by rw [HN.out]; exact (hP3.blk.cell 2).trans rfl
            have hr2 : r < wr.heap.size := hP3.blk.lt
            have hpb : pb < wr.heap.size := hP3.flt pb (hP3.ownF pb rfl)
            have hkw : IntKind.u64.wrap (k : Int) = (k : Int) := IntWalk.u64_in _ (by omega)
            have hqk : IntKind.u64.wrap ((q : Int) + (k : Int)) = ((q + k : Nat) : Int) := by rw [IntWalk.u64_in _ (by omega)]; omega
            have hqk64 : q + k < 18446744073709551616 := by omega
            go_wp2
            refine Flow.wp_region_flow (wr.heap.size) [] [] (by kernel_rfl) (by kernel_rfl) (Nat.le_refl _) (fun _ h => by cases h) Flow.facts_nil ?_
            refine Flow.pass_val (.agg s.cells) (Flow.met_none rfl) (fun a W hH => ?_) ?_
            · have e0 := Flow.see_old 3 hH.sees (by kernel_rfl) (by kernel_rfl) rfl
              exact reg_load 61 _ rfl e0 (hbS.drew.below hH.below hbS.lt) Tryz.underlying61 rfl infSpan
            refine Flow.pass_old (X := .pointer (some ⟨r, 0, none⟩)) 0 (Flow.met_none rfl) (.inl rfl) (by kernel_rfl) (by kernel_rfl) rfl ?_
            refine Flow.pass_val (.pointer (some ⟨r, 0, none⟩)) (Flow.met_none rfl) (fun a W hH => ?_) ?_
            · have e0 := Flow.see_new 35 1 hH.sees (by kernel_rfl) (by kernel_rfl) rfl rfl
              go_simp; first | done | rfl
            refine Flow.pass_val (.pointer (some ⟨r, 2, none⟩)) (Flow.met_none rfl) (fun a W hH => ?_) ?_
            · have e0 := Flow.see_new 36 2 hH.sees (by kernel_rfl) (by kernel_rfl) rfl rfl
              go_simp; first | done | rfl
            refine Flow.pass_val (.slice (some ⟨pb, po, none⟩) n c) (Flow.met_none rfl) (fun a W hH => ?_) ?_
            · have e0 := Flow.see_new 37 3 hH.sees (by kernel_rfl) (by kernel_rfl) rfl rfl
              have bb : Below wr.heap.size wr W := (Below.refl _ _).drew.trans hH.below; have cc := (bb.cell (p := ⟨r, 2, none⟩) hr2).trans hc2; go_simp
            refine Flow.pass_old (X := .int .i64 (i : Int)) 5 (Flow.met_none rfl) (.inl rfl) (by kernel_rfl) (by kernel_rfl) rfl ?_
            refine Flow.pass_val (.pointer (some ⟨pb, po + i * 2, none⟩)) (Flow.met_none rfl) (fun a W hH => ?_) ?_
            · have e0 := Flow.see_new 38 4 hH.sees (by kernel_rfl) (by kernel_rfl) rfl rfl
              have e1 := Flow.see_new 39 5 hH.sees (by kernel_rfl) (by kernel_rfl) rfl rfl
              exact s_ixS (s := 2) i _ rfl Tryz.underlying126 (by kernel_rfl) (by first | exact e0 | simpa [Act.eval] using e0 | (simp [Act.eval])) (by first | exact e1 | simpa [Act.eval] using e1 | (simp [Act.eval])) rfl hin rfl
            refine Flow.pass_val (.pointer (some ⟨pb, po + i * 2, none⟩)) (Flow.met_none rfl) (fun a W hH => ?_) ?_
            · have e0 := Flow.see_new 40 6 hH.sees (by kernel_rfl) (by kernel_rfl) rfl rfl
              go_simp; first | done | rfl
            refine Flow.pass_val (.int .u64 ((q : Nat) : Int)) (Flow.met_none rfl) (fun a W hH => ?_) ?_
            · have e0 := Flow.see_new 41 7 hH.sees (by kernel_rfl) (by kernel_rfl) rfl rfl
              have bb : Below wr.heap.size wr W := (Below.refl _ _).drew.trans hH.below; have cc := (bb.cell (p := ⟨pb, po + i * 2, none⟩) hpb).trans hc4; go_simp
            refine Flow.pass_old (X := .int .i64 (k : Int)) 6 (Flow.met_none rfl) (.inl rfl) (by kernel_rfl) (by kernel_rfl) rfl ?_
            refine Flow.pass_val (.int .u64 (k : Int)) (Flow.met_none rfl) (fun a W hH => ?_) ?_
            · have e0 := Flow.see_new 43 9 hH.sees (by kernel_rfl) (by kernel_rfl) rfl rfl
              go_simp; first | done | rfl | (rw [hkw]; done)
            refine Flow.pass_val (.int .u64 ((q + k : Nat) : Int)) (Flow.met_none rfl) (fun a W hH => ?_) ?_
            · have e0 := Flow.see_new 42 8 hH.sees (by kernel_rfl) (by kernel_rfl) rfl rfl
              have e1 := Flow.see_new 44 10 hH.sees (by kernel_rfl) (by kernel_rfl) rfl rfl
              go_simp; first | done | rfl | (rw [hqk]; done)
            refine Flow.pass_step (Reg.eqs (.bool (s.has (q + k)))) (fun _ _ => Flow.kept_eqs _ _) (Flow.met_none rfl) (fun a W hH => ?_) ?_
            · have e0 := Flow.see_new 34 0 hH.sees (by kernel_rfl) (by kernel_rfl) rfl rfl
              have e1 := Flow.see_new 45 11 hH.sees (by kernel_rfl) (by kernel_rfl) rfl rfl
              refine Reg.wp_call rfl Tryz.func102 rfl (by kernel_rfl) (by simp [Act.eval, e0, e1]) (rhas_any s oks (q + k) hqk64 W) ?_
              rintro e w' ⟨rfl, hB⟩
              exact ⟨_, rfl, _, rfl, hB, rfl⟩
            refine Flow.pass_end [none, none, none, none, none, none, none, none, none, none, none, none, none, none, none, none, none, none, none, none, none, none, none, none, none, none, none, none, none, none, none, none, none, none, some 34, some 35, some 36, some 37, some 38, some 39, some 40, some 41, some 42, some 43, some 44, some 45, some 46, none, none, none, none, none, none, none, none, none, none, none, none] (by kernel_rfl) ?_
            intro f gg w9 hB hfa hT hfg
            have h46 : f 46 = _ := (hfg 46 12 (by kernel_rfl)).trans (hT 12 _ (by kernel_rfl) rfl)
            simp only [Reg.sel, h46]
            have Bw : Below wr.heap.size wr w9 := (Below.refl _ _).drew.trans hB
            have hP9 := hP3.below Bw (Nat.le_refl _)
            have hbS9 := hbS.below Bw hbS.lt
            have C9 : Chg F w w9 := C3.trans (Chg.of_ext Bw)
            obtain ⟨h, hh⟩ : ∃ h, h = s.has (q + k) := ⟨_, rfl⟩
            rw [← hh]
            have HH := Lib.hid hh
            clear hT hfg hfa h46 hB hc2 hc4 hc5 hh hP3 hbS C3 Bw
            cases h with
            | false =>
              have hE : Hid (rM m s ps i (k + 1) = rM m s ps i k) := Lib.hid (rM_keep m s ps HX.out hlt (by rw [← HQQ.out]; exact HH.out.symm))
              go_wp2
              go_roundw
              case rel => exact ⟨k + 1, by omega, by go_num, by rw [hE.out]; exact hP9, hbS9, C9⟩
              case measure => simp [intOf]; omega
            | true =>
              obtain ⟨pb', po', e, hc4, hc5⟩ := hP9.cells HX.out
              cases e
              have hc2 : w9.cell? ⟨r, 2, none⟩ = some (.slice (some ⟨pb, po, none⟩) n c) := by rw [HN.out]; exact (hP9.blk.cell 2).trans rfl
              unfold pgV at hc5
              obtain ⟨r1, r2, r3⟩ := hP9.rows x hxm
              have hsz : k < (bcells (pageOf (rM m s ps i k) x.1)).toArray.size := by rw [List.size_toArray, bcells_length, pageOf_length]; exact hlt
              have hcell : ∃ u, w9.cell? ⟨x.2, k, none⟩ = some u := ⟨_, (r1.cell k).trans (Array.getElem?_eq_getElem hsz)⟩
              obtain ⟨u, hu⟩ := hcell
              have hfr : w9.frozen? ⟨x.2, k, none⟩ = false := r1.frozen k
              have hg := r1.set_ k (.int .u8 0)
              rw [set_zero _ k (by rw [pageOf_length]; exact hlt)] at hg
              have hgr := s_grown w9 x.2 k (.int .u8 0)
              have hE : Hid (rM m s ps i (k + 1) = writeM (rM m s ps i k) (4096 * x.1 + k) [0]) := Lib.hid (rM_set m s ps HX.out hlt (by rw [← HQQ.out]; exact HH.out.symm))
              have hP10 := hP9.put (o := k) (l := [0]) hxm (by simp only [List.length_cons, List.length_nil]; omega) hgr hg
              have hbS10 := hbS9.grown hgr (fun e => by have := hFlt x.2 r2; have := Option.some.inj e; omega)
              have C10 : Chg F w (w9.setCell ⟨x.2, k, none⟩ (.int .u8 0)) := C9.trans (Chg.grown hgr (fun b e => by cases e; exact r2))
              clear hg hgr r1 hsz hP9 hbS9 C9
              go_wp2
              go_roundw
              case rel => exact ⟨k + 1, by omega, by go_num, by rw [hE.out]; exact hP10, hbS10, C10⟩
              case measure => simp [intOf]; omega
          · obtain rfl : k = 4096 := by omega
            rw [rM_next m s ps i hin2] at hP3
            go_wp2
            go_roundw
            case rel => exact ⟨i + 1, by omega, by go_num, hP3, hbS, C3⟩
            case measure => simp [intOf]; omega
      · obtain rfl : i = n := by omega
        rw [HN.out, rM_end m s ps (fun k hk => by have := hP9.zero k hk; rwa [rM_start] at this)] at hP3
        go_wp2
        go_ret
        have hz1 : zErr ram s = 0 := by rw [zErr, ← HQ.out]; rfl
        have hz2 : zV ram m s = clrM m s := by rw [zV, ← HQ.out]; rfl
        rw [hz1, hz2]
        exact ⟨rfl, F, ⟨_, _, _, hP3, hps⟩, C3, fun _ h => h, fun _ h => .inl h⟩
end Go.Proofs.YtipdmhppadapkaaGreatDoor
/-
  The reference's (*Mem).Touched: a law for append, plain, and the walk.
-/
namespace Go.Proofs.YtipdmhppadapkaaGreatDoor
open Go.RowKit

section
variable {P : Program} {ops : Array Oper} {rest : List Oper} {o : Oper} {a : Act} {Q : Exit → Act → World → Prop}
/-- append(s, x...) onto a slice that is full: what it reads as, all else as it was -/
theorem wpList_appF (w : World) {t e : TypeId} {z : Value} {bytes : Nat} (E : Elem P t e z 1 bytes) (hgd : o.guard = none) (s x : Operand)
    (ho : o.op = .call { callee := .builtin .append, args := #[s, x], argTypes := #[t, t] })
    (A1 : Option Addr) (n : Nat) (olds : List Value) (hs : a.eval s = .slice A1 n n) (h0 : A1 = none → n = 0) (hr1 : Rd w w.heap.size 1 A1 n olds)
    (A2 : Option Addr) (m c2 : Nat) (news : List Value) (hx : a.eval x = .slice A2 m c2) (hr2 : Rd w w.heap.size 1 A2 m news) (h1 : ∀ u ∈ news, u.oneCell' = true)
    (h63 : n + m ≤ 9223372036854775807) (hbytes : (n + m) * bytes ≤ 140737488355328)
    (h : ∀ A' c' w', Rd w' w'.heap.size 1 A' (n + m) (olds ++ news) → n + m ≤ c' → (A' = none → c' = 0) → Ext w w' → wpList P ops Q rest (a.put o.dst (.slice A' (n + m) c')) w') : wpList P ops Q (o :: rest) a w := by
  obtain ⟨i, hi, hz, h4, h5⟩ := E.info
  rcases Nat.eq_zero_or_pos m with hm | hm
  · subst hm
    have hn : news = [] := List.eq_nil_of_length_eq_zero (by simpa using hr2.len)
    subst hn
    refine wpList_plain hgd fun K hK => ?_
    have hrun : (Builtin.append_ #[t, t] o.type #[.slice A1 n n, .slice A2 0 c2]).run P w = .ok (.slice A1 n n) w := by
      cases A1 with
      | none =>
        obtain rfl := h0 rfl
        cases A2 <;> simp [Builtin.append_, run_underlying E.under, sizeOf, typeInfo, hi, Builtin.lenOf, Builtin.firstCells, loadCells, loadCellsFrom]
      | some ad => cases A2 <;> simp [Builtin.append_, run_underlying E.under, sizeOf, typeInfo, hi, Builtin.lenOf, Builtin.firstCells, loadCells, loadCellsFrom, storeCells]
    unfold Oper.wp execOp
    simp only [ho, resolve, invoke, builtin, Sem.run_bind, Sem.run_pure, Result.andThen_ok, List.map_toArray, List.map_cons, List.map_nil, hs, hx, hrun]
    exact hK _ _ (h A1 n w (by simpa using hr1) (by omega) h0 (Ext.refl _))
  · obtain ⟨ad2, rfl, _, hc2⟩ := hr2.cells (by omega)
    refine wpList_append_grows w hgd s x t ho e i z 1 bytes E.under hi hz h4 h5 E.zs E.pos A1 n n olds hs (fun e => ⟨h0 e, h0 e⟩) (by rw [hr1.len]) (fun b hb j u hu => ?_) ad2 m c2 news hx (by rw [hr2.len]) (fun j u hu => hc2 j u hu) h1 (by omega) (by simp only [maxLen]; omega) hbytes ?_
    · cases hb
      obtain ⟨a', e', _, hc⟩ := hr1.cell j u hu
      cases e'; exact hc
    · intro v' w' h2 h3
      have hex : ∃ A' c', v' = .slice A' (n + m) c' := by
        rcases h2.2 with ⟨e1, e2⟩ | ⟨g, cap, cur, e1, _⟩
        · omega
        · exact ⟨_, _, e1⟩
      obtain ⟨A', c', rfl⟩ := hex
      refine h A' c' w' (Rd.of_own h2) ?_ ?_ ((Chg.grown (Z := fun _ => False) h3 (by rintro k hk; cases hk)).ext)
      · rcases h2.2 with ⟨e1, e2⟩ | ⟨g, cap, cur, e1, _, _, h7, _⟩
        · omega
        · cases e1; exact h7
      · intro e
        rcases h2.2 with ⟨e1, e2⟩ | ⟨g, cap, cur, e1, _⟩
        · omega
        · cases e1; cases e
end

theorem addr_zero (a : Addr) : a.add 0 = a := by
  unfold Addr.add; split <;> simp_all
theorem sliceK {w : World} {A : Option Addr} {c k : Nat} {L : List Nat} (h : Rd w w.heap.size 1 A L.length (ucells L)) (hk : k ≤ L.length) (hLc : L.length ≤ c) (hA : A = none → c = 0) :
    (∀ W, (Instr.slice 74 (.slice A L.length c) none (some (.int .i64 (k : Int))) (some (.int .i64 (k : Int)))).run Tryz.prog W = .ok (.slice A k k) W) ∧ (A = none → k = 0) ∧ Rd w w.heap.size 1 A k (ucells (L.take k)) := by
  refine ⟨fun W => ?_, fun e => by have := hA e; omega, by rw [ucells_length, List.length_take]; omega, fun j v hv => ?_⟩
  · obtain ⟨inf, hinf, hsz⟩ := Option.map_eq_some_iff.1 (show (Tryz.prog.info? (Tryz.prog.elem 74)).map (·.size) = some 1 by kernel_rfl)
    have es : (sizeOf (Tryz.prog.elem 74)).run Tryz.prog W = .ok 1 W := by simp [sizeOf, typeInfo, hinf, hsz]
    rw [run_slice_hm W 74 _ _ _ (by kernel_rfl) .i64 .i64 (k : Int) (k : Int) (by omega) (by omega) (by omega), es]
    have e1 : (k : Int).toNat = k := by omega
    rw [e1]
    show Result.ok (Value.slice (if k = 0 then A else A.map (·.add (0 * 1))) (k - 0) (k - 0)) W = _
    have e2 : A.map (fun x : Addr => x.add (0 * 1)) = A := by cases A with
      | none => rfl
      | some a => simp [addr_zero]
    rw [e2]; split <;> rfl
  · refine h.cell j v ?_
    unfold ucells at hv ⊢
    rw [List.map_take, List.getElem?_take] at hv
    split at hv
    · exact hv
    · cases hv
theorem sliceD {w : World} {A : Option Addr} {c k : Nat} {L : List Nat} (h : Rd w w.heap.size 1 A L.length (ucells L)) (hk : k ≤ L.length) (hLc : L.length ≤ c) :
    ∃ A2, (∀ W, (Instr.slice 74 (.slice A L.length c) (some (.int .i64 (k : Int))) none none).run Tryz.prog W = .ok (.slice A2 (L.length - k) (c - k)) W) ∧ Rd w w.heap.size 1 A2 (L.length - k) (ucells (L.drop k)) := by
  refine ⟨if c = k then A else A.map (·.add (k * 1)), fun W => ?_, ?_⟩
  · obtain ⟨inf, hinf, hsz⟩ := Option.map_eq_some_iff.1 (show (Tryz.prog.info? (Tryz.prog.elem 74)).map (·.size) = some 1 by kernel_rfl)
    have es : (sizeOf (Tryz.prog.elem 74)).run Tryz.prog W = .ok 1 W := by simp [sizeOf, typeInfo, hinf, hsz]
    rw [run_slice_l W 74 _ _ _ (by kernel_rfl) .i64 (k : Int) (by omega) (by omega), es]
    have e1 : (k : Int).toNat = k := by omega
    rw [e1]; rfl
  · have h2 := h.cut (k := k) (cap := c) hLc
    rw [show (ucells L).drop (k * 1) = ucells (L.drop k) by simp [ucells]] at h2
    exact h2

/-- the pages ps, as far as they hold a byte that is not 0, rising -/
def TouchedOf (m : Mm) (ps : List (Nat × Nat)) (L : List Nat) : Prop := L.Pairwise (fun x y => x < y) ∧ ∀ v, v ∈ L ↔ ∃ x ∈ ps, v = 4096 * x.1 ∧ someB (pageOf m x.1) = true
theorem TouchedOf.nil (m : Mm) : TouchedOf m [] [] := ⟨List.Pairwise.nil, fun v => by simp⟩
theorem TouchedOf.skip {m : Mm} {ps : List (Nat × Nat)} {L : List Nat} (h : TouchedOf m ps L) {x : Nat × Nat} (hx : someB (pageOf m x.1) = false) : TouchedOf m (ps ++ [x]) L := by
  refine ⟨h.1, fun v => (h.2 v).trans ⟨fun ⟨y, hy, h2⟩ => ⟨y, List.mem_append_left _ hy, h2⟩, fun ⟨y, hy, h2, h3⟩ => ?_⟩⟩
  rcases List.mem_append.1 hy with h4 | h4
  · exact ⟨y, h4, h2, h3⟩
  · rw [List.mem_singleton.1 h4, hx] at h3; cases h3
theorem TouchedOf.put {m : Mm} {ps : List (Nat × Nat)} {L : List Nat} (h : TouchedOf m ps L) {x : Nat × Nat} (hx : someB (pageOf m x.1) = true) (k : Nat)
    (h1 : ∀ v ∈ L.take k, v < 4096 * x.1) (h2 : ∀ v, L[k]? = some v → 4096 * x.1 < v) : TouchedOf m (ps ++ [x]) (L.take k ++ [4096 * x.1] ++ L.drop k) := by
  have h3 : ∀ v ∈ L.drop k, 4096 * x.1 < v := by
    intro v hv
    obtain ⟨j, hj, rfl⟩ := List.mem_iff_getElem.1 hv
    rw [List.length_drop] at hj
    rw [List.getElem_drop]
    have h4 := h2 L[k] (List.getElem?_eq_getElem (by omega))
    rcases Nat.eq_zero_or_pos j with rfl | h5
    · simpa using h4
    · have := (List.pairwise_iff_getElem.1 h.1) k (k + j) (by omega) (by omega) (by omega)
      omega
  refine ⟨?_, fun v => ?_⟩
  · rw [List.pairwise_append]
    refine ⟨?_, h.1.sublist (List.drop_sublist _ _), fun a ha b hb => ?_⟩
    · rw [List.pairwise_append]
      refine ⟨h.1.sublist (List.take_sublist _ _), List.pairwise_singleton _ _, fun a ha b hb => ?_⟩
      rw [List.mem_singleton.1 hb]; exact h1 a ha
    · have := h3 b hb
      rcases List.mem_append.1 ha with h4 | h4
      · have := h1 a h4; omega
      · rw [List.mem_singleton.1 h4]; exact this
  · have h4 : v ∈ L.take k ++ [4096 * x.1] ++ L.drop k ↔ v ∈ L ∨ v = 4096 * x.1 := by
      rw [List.mem_append, List.mem_append, List.mem_singleton]
      constructor
      · rintro ((h5 | h5) | h5)
        · exact .inl (List.mem_of_mem_take h5)
        · exact .inr h5
        · exact .inl (List.mem_of_mem_drop h5)
      · rintro (h5 | h5)
        · rw [← List.take_append_drop k L] at h5
          rcases List.mem_append.1 h5 with h6 | h6
          · exact .inl (.inl h6)
          · exact .inr h6
        · exact .inl (.inr h5)
    rw [h4, h.2 v]
    constructor
    · rintro (⟨y, hy, h5⟩ | h5)
      · exact ⟨y, List.mem_append_left _ hy, h5⟩
      · exact ⟨x, List.mem_append_right _ (List.mem_singleton.2 rfl), h5, hx⟩
    · rintro ⟨y, hy, h5, h6⟩
      rcases List.mem_append.1 hy with h7 | h7
      · exact .inl ⟨y, h7, h5, h6⟩
      · rw [List.mem_singleton.1 h7] at h5; exact .inr h5
theorem TouchedOf.is {w : World} {r : Nat} {ram : Sp} {m : Mm} {F : Nat → Prop} {ps : List (Nat × Nat)} {A : Option Addr} {c : Nat} (hP : RM w r ram m F ps A c) {L : List Nat} (h : TouchedOf m ps L) : TouchedIs m L := by
  refine ⟨h.1, fun v => (h.2 v).trans ⟨fun ⟨x, _, h2, h3⟩ => ⟨x.1, h2, h3⟩, fun ⟨k, h2, h3⟩ => ?_⟩⟩
  refine Classical.byContradiction fun hn => ?_
  have hz := pageOf_zero m k (hP.zero k (fun x hx e => hn ⟨x, hx, by rw [e]; exact h2, by rw [e]; exact h3⟩))
  rw [hz, someB_zero] at h3
  cases h3
end Go.Proofs.YtipdmhppadapkaaGreatDoor
/-
  Walk of the reference: (*Mem).Touched.
-/
namespace Go.Proofs.YtipdmhppadapkaaGreatDoor
open Go.RowKit

theorem infPg : (Tryz.prog.info? 139).map (·.size) = some 2 := by kernel_rfl
theorem zeroPage (w : World) : (zeroValue 139).run Tryz.prog w = .ok (.agg #[.int .u64 0, .slice none 0 0]) w := by kernel_rfl
theorem pg_one (x : Nat × Nat) : ∀ v ∈ (pcell x).toArray.toList, v.oneCell' = true := by
  intro v hv
  simp only [pcell, List.mem_cons, List.not_mem_nil, or_false] at hv
  rcases hv with rfl | rfl <;> rfl

set_option maxRecDepth 100000 in
set_option maxHeartbeats 4000000 in
theorem rtouched_any (r : Nat) (ram : Sp) (m : Mm) (F : Nat → Prop) (N : Nat) (hN : N ≤ 1000000) (w : World) (hM : RMem w r ram m F N) :
    Calls Tryz.prog 24 #[.pointer (some ⟨r, 0, none⟩)] w fun e w' => ∃ ys A c, TouchedIs m ys ∧ ys.length ≤ 1000000 ∧ e = .returned (.slice A ys.length c) ∧ Rd w' w'.heap.size 1 A ys.length (ucells ys) ∧ Below w.heap.size w w' := by
  obtain ⟨ps, Ap, cp, hP, hps⟩ := hM
  obtain ⟨n, hn⟩ : ∃ n, n = ps.length := ⟨_, rfl⟩
  have c2 : w.cell? ⟨r, 2, none⟩ = some (.slice Ap n cp) := by rw [hn]; exact (hP.blk.cell 2).trans rfl
  have HN := Lib.hid hn
  have hn6 : n ≤ 1000000 := by omega
  have hz1 := zeroPage
  clear hn
  go_enter Tryz.func24, Tryz.ntmps24
  go_wp2
  go_loopw [3, 15] (fun o v wr => ∃ i : Nat, i ≤ n ∧ v = .int .i64 (i : Int) ∧ ∃ (L : List Nat) (A : Option Addr) (c : Nat), o = .slice A L.length c ∧ L.length ≤ c ∧ (A = none → c = 0) ∧ L.length ≤ i ∧ Hid (TouchedOf m (ps.take i) L) ∧ Rd wr wr.heap.size 1 A L.length (ucells L) ∧ Below w.heap.size w wr) (fun _ v _ => n - (intOf v).toNat)
  case atStart => exact ⟨0, Nat.zero_le _, rfl, [], none, 0, rfl, Nat.le_refl _, fun _ => rfl, Nat.zero_le _, Lib.hid (TouchedOf.nil m), Rd.nil _ _ _ _, Below.refl _ _⟩
  case round =>
    obtain ⟨i, hi, rfl, L, A, c, rfl, hLc, hA0, hLi, hT, hR, hB⟩ := hrel
    have hP3 := hP.below hB (Nat.le_refl _)
    by_cases hin : i < n
    · obtain ⟨x, hx⟩ : ∃ x, ps[i]? = some x := ⟨_, List.getElem?_eq_getElem (by rw [← HN.out]; exact hin)⟩
      have hxm : x ∈ ps := List.mem_of_getElem? hx
      have hrng : ∃ pb po, Ap = some ⟨pb, po, none⟩ ∧ wr.rangeAt pb (po + i * 2) (pcell x) := by
        obtain ⟨pb, po, rfl, _, _⟩ := (Rd.of_own hP3.own).range (by rw [← HN.out]; omega)
        exact ⟨pb, po, rfl, rd_page (Rd.of_own hP3.own) i x hx⟩
      obtain ⟨pb, po, rfl, hrng⟩ := hrng
      have hdz := Blk.new wr 139 #[.int .u64 0, .slice none 0 0]
      have HX := Lib.hid hx
      obtain ⟨r1, r2, r3⟩ := hP3.rows x hxm
      clear hx c2
      go_wp2_with (first
        | ((with_reducible refine at_load 139 ?_); refine wpList_load_mid rfl 139 _ rfl pb (po + i * 2) rfl (pcell x) _ hrng Tryz.underlying139 rfl infPg ?_)
        | ((with_reducible refine at_store 139 ?_); refine wpList_storeAll _ rfl 139 _ _ rfl wr.heap.size 139 _ (pcell x).toArray hdz rfl rfl rfl infPg (pg_one x) ?_; intro w3 hb3 hg3 hs3; have cc0 : w3.cell? ⟨wr.heap.size, 0, none⟩ = some (.int .u64 ((4096 * x.1 : Nat) : Int)) := (hb3.cell 0).trans rfl; have cc1 : w3.cell? ⟨wr.heap.size, 1, none⟩ = some (.slice (some ⟨x.2, 0, none⟩) 4096 4096) := (hb3.cell 1).trans rfl; have B3 := grown_below (hB.alloc hB.size (.cells #[.int .u64 0, .slice none 0 0] 139)) hg3 (by simp; have := hB.size; omega) hB.size))
      have Bw : Below wr.heap.size wr w3 := grown_below ((Below.refl wr.heap.size wr).alloc (Nat.le_refl _) (.cells #[.int .u64 0, .slice none 0 0] 139)) hg3 (by simp) (Nat.le_refl _)
      have hR3 := (hR.below Bw).more Bw.size
      have hpg := r1.below Bw r1.lt
      have hbp3 : wr.heap.size < w3.heap.size := hb3.lt
      obtain ⟨q, hq⟩ : ∃ q, q = 4096 * x.1 := ⟨_, rfl⟩
      rw [← hq] at cc0
      have HQ := Lib.hid hq
      have hLb := (⟨hLc, hLi⟩ : L.length ≤ c ∧ L.length ≤ i)
      clear hR hg3 hs3 hdz hrng hP3 hB Bw r1 hb3 hq
      generalize wr.heap.size = bp at *
      obtain ⟨P, hPg⟩ : ∃ P, P = pageOf m x.1 := ⟨_, rfl⟩
      have hPl : P.length = 4096 := by rw [hPg, pageOf_length]
      rw [← hPg] at hpg
      have HPG := Lib.hid hPg
      have HPL := Lib.hid hPl
      clear hPg hPl
      go_loopw [6, 22] (fun o v wr => ∃ k : Nat, k ≤ 4096 ∧ v = .int .i64 (k : Int) ∧ o = .bool (someB (P.take k)) ∧ wr = w3) (fun _ v _ => 4096 - (intOf v).toNat)
      case atStart => exact ⟨0, Nat.zero_le _, rfl, by first | rfl | trivial, rfl⟩
      case round =>
        obtain ⟨k, hk, rfl, rfl, rfl⟩ := hrel
        by_cases hlt : k < 4096
        · have hkl : k < P.length := by rw [HPL.out]; exact hlt
          obtain ⟨y, hy⟩ : ∃ y, y = P[k] := ⟨_, rfl⟩
          have hcy : wr.cell? ⟨x.2, k, none⟩ = some (.int .u8 ((y.toNat : Nat) : Int)) := by rw [hpg.cell, hy]; simp [bcells, hkl]
          obtain ⟨S, hS⟩ : ∃ S, S = someB (P.take k) := ⟨_, rfl⟩
          rw [← hS]
          have hstep : Hid (someB (P.take (k + 1)) = (S || (y != 0))) := Lib.hid (by rw [hS, hy]; unfold someB; rw [List.take_succ_eq_append_getElem hkl, List.any_append, List.any_cons, List.any_nil, Bool.or_false])
          have hyb : ((y.toNat : Int) != 0) = (y != 0) := by
            have h1 : y.toNat = 0 ↔ y = 0 := UInt8.toNat_inj (b := 0)
            rw [Bool.eq_iff_iff]
            simp [← h1]
          clear hy hS
          cases S with
          | true =>
            go_wp2
            go_roundw
            case rel => exact ⟨k + 1, by omega, by go_num, by simp [hstep.out], by first | rfl | trivial⟩
            case measure => simp [intOf]; omega
          | false =>
            go_wp2
            go_roundw
            case rel => exact ⟨k + 1, by omega, by go_num, by rw [hstep.out, Bool.false_or, ← hyb], by first | rfl | trivial⟩
            case measure => simp [intOf]; omega
        · obtain rfl : k = 4096 := by omega
          rw [List.take_of_length_le (by rw [HPL.out]; exact Nat.le_refl _)]
          cases hS : someB P with
          | false =>
            go_wp2
            have hsk := hT.out.skip (x := x) (by rw [← HPG.out]; exact hS)
            go_roundw
            case rel => exact ⟨i + 1, by omega, by go_num, L, A, c, rfl, hLc, hA0, by omega, Lib.hid (by rw [List.take_add_one, HX.out]; exact hsk), hR3, B3⟩
            case measure => simp [intOf]; omega
          | true =>
            go_wp2
            have hdist : ∀ u ∈ L, u ≠ q := fun u hu e => by
              obtain ⟨y, hy, h2, _⟩ := (hT.out.2 u).1 hu
              obtain ⟨j, hj⟩ := List.mem_iff_getElem?.1 hy
              rw [List.getElem?_take] at hj
              split at hj
              · rename_i hji
                have h5 := List.pairwise_iff_getElem.1 hP.dist
                obtain ⟨hj1, hj2⟩ := List.getElem?_eq_some_iff.1 hj
                obtain ⟨hi1, hi2⟩ := List.getElem?_eq_some_iff.1 HX.out
                have h6 := (h5 j i hj1 hi1 hji).1
                rw [hj2, hi2] at h6
                have := HQ.out
                omega
              · cases hj
            have HD := Lib.hid hdist
            have hgen : ∀ k, (∀ u ∈ L.take k, u < q) → (∀ v, L[k]? = some v → q < v) → TouchedOf m (ps.take (i + 1)) (L.take k ++ [q] ++ L.drop k) := fun k h1 h2 => by
              have h3 := hT.out.put (x := x) (by rw [← HPG.out]; exact hS) k (by rw [← HQ.out]; exact h1) (by rw [← HQ.out]; exact h2)
              rw [List.take_add_one, HX.out, HQ.out]; exact h3
            have HG := Lib.hid hgen
            clear hdist hgen hS
            go_loopw [9] (fun v wr => ∃ k : Nat, k ≤ L.length ∧ v = .int .i64 (k : Int) ∧ Hid (∀ u ∈ L.take k, u < q) ∧ Below w.heap.size w wr ∧ Rd wr wr.heap.size 1 A L.length (ucells L) ∧ wr.cell? ⟨bp, 0, none⟩ = some (.int .u64 ((q : Nat) : Int)) ∧ bp < wr.heap.size) (fun v _ => L.length - (intOf v).toNat)
            case atStart => exact ⟨0, Nat.zero_le _, rfl, Lib.hid (by simp), B3, hR3, cc0, hbp3⟩
            case round =>
              clear cc0 cc1 hbp3 hR3 B3 hpg
              obtain ⟨k, hk, rfl, hlo, B4, hR, hcq, hbp⟩ := hrel
              by_cases hlt : k < L.length
              · obtain ⟨ob, oo, rfl, hob, hrg⟩ := hR.range (by omega)
                obtain ⟨v, hv⟩ : ∃ v, v = L[k] := ⟨_, rfl⟩
                have hcv : wr.cell? ⟨ob, oo + k, none⟩ = some (.int .u64 ((v : Nat) : Int)) := hrg k _ (by simp [ucells, hlt, hv])
                have HV := Lib.hid hv
                clear hv hrg
                go_wp2
                refine Flow.wp_region_flow (wr.heap.size) [] [] (by kernel_rfl) (by kernel_rfl) (Nat.le_refl _) (fun _ h => by cases h) Flow.facts_nil ?_
                refine Flow.pass_old (X := .int .i64 (k : Int)) 9 (Flow.met_none rfl) (.inl rfl) (by kernel_rfl) (by kernel_rfl) rfl ?_
                refine Flow.pass_old (X := .slice (some ⟨ob, oo, none⟩) L.length c) 3 (Flow.met_none rfl) (.inl rfl) (by kernel_rfl) (by kernel_rfl) rfl ?_
                refine Flow.pass_val (.int .i64 (L.length : Int)) (Flow.met_none rfl) (fun a W hH => ?_) ?_
                · have e0 := Flow.see_new 35 1 hH.sees (by kernel_rfl) (by kernel_rfl) rfl rfl
                  go_simp; first | done | rfl
                refine Flow.pass_val (.bool true) (Flow.met_none rfl) (fun a W hH => ?_) ?_
                · have e0 := Flow.see_new 34 0 hH.sees (by kernel_rfl) (by kernel_rfl) rfl rfl
                  have e1 := Flow.see_new 36 2 hH.sees (by kernel_rfl) (by kernel_rfl) rfl rfl
                  go_simp; first | done | rfl | omega | exact decide_eq_true (by omega) | exact decide_eq_false (by omega)
                refine Flow.pass_copy 37 3 (Flow.met_none rfl) (.inl rfl) (by kernel_rfl) (by kernel_rfl) rfl rfl (fun _ _ => Flow.kept_eqs _ _) ?_
                refine Flow.pass_old (X := .slice (some ⟨ob, oo, none⟩) L.length c) 3 (Flow.met_some 4 true 38 rfl rfl (by kernel_rfl) (by kernel_rfl) rfl rfl) (.inl rfl) (by kernel_rfl) (by kernel_rfl) rfl ?_
                refine Flow.pass_old (X := .int .i64 (k : Int)) 9 (Flow.met_some 4 true 38 rfl rfl (by kernel_rfl) (by kernel_rfl) rfl rfl) (.inl rfl) (by kernel_rfl) (by kernel_rfl) rfl ?_
                refine Flow.pass_val (.pointer (some ⟨ob, oo + k, none⟩)) (Flow.met_some 4 true 38 rfl rfl (by kernel_rfl) (by kernel_rfl) rfl rfl) (fun a W hH => ?_) ?_
                · have e0 := Flow.see_new 39 5 hH.sees (by kernel_rfl) (by kernel_rfl) rfl rfl
                  have e1 := Flow.see_new 40 6 hH.sees (by kernel_rfl) (by kernel_rfl) rfl rfl
                  exact s_ixS (s := 1) k _ rfl Tryz.underlying74 (by kernel_rfl) (by first | exact e0 | simpa [Act.eval] using e0 | (simp [Act.eval])) (by first | exact e1 | simpa [Act.eval] using e1 | (simp [Act.eval])) rfl hlt (by omega)
                refine Flow.pass_val (.int .u64 ((v : Nat) : Int)) (Flow.met_some 4 true 38 rfl rfl (by kernel_rfl) (by kernel_rfl) rfl rfl) (fun a W hH => ?_) ?_
                · have e0 := Flow.see_new 41 7 hH.sees (by kernel_rfl) (by kernel_rfl) rfl rfl
                  have bb : Below wr.heap.size wr W := (Below.refl _ _).drew.trans hH.below; have cc := (bb.cell (p := ⟨ob, oo + k, none⟩) hob).trans hcv; go_simp
                refine Flow.pass_val (.pointer (some ⟨bp, 0, none⟩)) (Flow.met_some 4 true 38 rfl rfl (by kernel_rfl) (by kernel_rfl) rfl rfl) (fun a W hH => ?_) ?_
                · have e0 := Flow.see_old 5 hH.sees (by kernel_rfl) (by kernel_rfl) rfl
                  go_simp; first | done | rfl
                refine Flow.pass_val (.int .u64 ((q : Nat) : Int)) (Flow.met_some 4 true 38 rfl rfl (by kernel_rfl) (by kernel_rfl) rfl rfl) (fun a W hH => ?_) ?_
                · have e0 := Flow.see_new 43 9 hH.sees (by kernel_rfl) (by kernel_rfl) rfl rfl
                  have bb : Below wr.heap.size wr W := (Below.refl _ _).drew.trans hH.below; have cc := (bb.cell (p := ⟨bp, 0, none⟩) hbp).trans hcq; go_simp
                refine Flow.pass_val (.bool (decide ((v : Int) < (q : Int)))) (Flow.met_some 4 true 38 rfl rfl (by kernel_rfl) (by kernel_rfl) rfl rfl) (fun a W hH => ?_) ?_
                · have e0 := Flow.see_new 42 8 hH.sees (by kernel_rfl) (by kernel_rfl) rfl rfl
                  have e1 := Flow.see_new 44 10 hH.sees (by kernel_rfl) (by kernel_rfl) rfl rfl
                  go_simp; first | done | rfl
                refine Flow.pass_val (.bool (decide ((v : Int) < (q : Int)))) (Flow.met_none rfl) (fun a W hH => ?_) ?_
                · have e0 := Flow.see_new 38 4 hH.sees (by kernel_rfl) (by kernel_rfl) rfl rfl
                  have e1 := Flow.see_new 45 11 hH.sees (by kernel_rfl) (by kernel_rfl) rfl rfl
                  go_simp; first | done | rfl
                refine Flow.pass_end [none, none, none, none, none, none, none, none, none, none, none, none, none, none, none, none, none, none, none, none, none, none, none, none, none, none, none, none, none, none, none, none, none, none, some 34, some 35, some 36, some 37, some 38, some 39, some 40, some 41, some 42, some 43, some 44, some 45, some 46, none, none, none, none, none, none, none, none, none, none, none, none, none, none, none, none] (by kernel_rfl) ?_
                intro f gg w9 hB hfa hT hfg
                have h46 : f 46 = _ := (hfg 46 12 (by kernel_rfl)).trans (hT 12 _ (by kernel_rfl) rfl)
                simp only [Reg.sel, h46]
                by_cases hvq : v < q
                · have hvi : (v : Int) < (q : Int) := by omega
                  have Bw : Below wr.heap.size wr w9 := (Below.refl _ _).drew.trans hB
                  have hlo2 : Hid (∀ u ∈ L.take (k + 1), u < q) := Lib.hid (fun u hu => by
                    rw [List.take_succ_eq_append_getElem hlt] at hu
                    rcases List.mem_append.1 hu with h | h
                    · exact hlo.out u h
                    · rw [List.mem_singleton.1 h, ← HV.out]; exact hvq)
                  have hR9 := (hR.below Bw).more Bw.size
                  have hcq9 := (Bw.cell (p := ⟨bp, 0, none⟩) hbp).trans hcq
                  have hbp9 := Nat.lt_of_lt_of_le hbp Bw.size
                  have B9 := B4.trans (Bw.mono B4.size)
                  clear hT hfg hfa hB hR hcq h46
                  go_wp2
                  go_roundw
                  case rel => exact ⟨k + 1, by omega, by go_num, hlo2, B9, hR9, hcq9, hbp9⟩
                  case measure => simp [intOf]; omega
                · have hvi : ¬ (v : Int) < (q : Int) := by omega
                  have Bw : Below wr.heap.size wr w9 := (Below.refl _ _).drew.trans hB
                  have hR9 := (hR.below Bw).more Bw.size
                  have hcq9 := (Bw.cell (p := ⟨bp, 0, none⟩) hbp).trans hcq
                  have hbp9 := Nat.lt_of_lt_of_le hbp Bw.size
                  have B9 := B4.trans (Bw.mono B4.size)
                  have hput := HG.out k hlo.out (fun u hu => by
                    have e : u = v := by rw [List.getElem?_eq_getElem hlt] at hu; rw [HV.out]; exact (Option.some.inj hu).symm
                    have := HD.out v (by rw [HV.out]; exact List.getElem_mem hlt)
                    omega)
                  have HPUT := Lib.hid hput
                  clear hT hfg hfa hB hR hcq h46 hput
                  have hR := hR9
                  have hcq := hcq9
                  have hbp := hbp9
                  have B4 := B9
                  clear hR9 hcq9 hbp9 B9 Bw
                  generalize w9 = wr at *
                  obtain ⟨hs1, hA1, hR1⟩ := sliceK hR hk hLb.1 hA0
                  obtain ⟨A2, hs2, hR2⟩ := sliceD hR hk hLb.1
                  have hLn : L.length ≤ 1000000 := by omega
                  clear hR
                  go_wp2
                  refine Flow.wp_region_flow (wr.heap.size) [] [] (by kernel_rfl) (by kernel_rfl) (Nat.le_refl _) (fun _ h => by cases h) Flow.facts_nil ?_
                  refine Flow.pass_old (X := .slice (some ⟨ob, oo, none⟩) L.length c) 3 (Flow.met_none rfl) (.inl rfl) (by kernel_rfl) (by kernel_rfl) rfl ?_
                  refine Flow.pass_old (X := .int .i64 (k : Int)) 9 (Flow.met_none rfl) (.inl rfl) (by kernel_rfl) (by kernel_rfl) rfl ?_
                  refine Flow.pass_old (X := .int .i64 (k : Int)) 9 (Flow.met_none rfl) (.inl rfl) (by kernel_rfl) (by kernel_rfl) rfl ?_
                  refine Flow.pass_val (.slice (some ⟨ob, oo, none⟩) k k) (Flow.met_none rfl) (fun a W hH => ?_) ?_
                  · have e0 := Flow.see_new 49 0 hH.sees (by kernel_rfl) (by kernel_rfl) rfl rfl
                    have e1 := Flow.see_new 50 1 hH.sees (by kernel_rfl) (by kernel_rfl) rfl rfl
                    have e2 := Flow.see_new 51 2 hH.sees (by kernel_rfl) (by kernel_rfl) rfl rfl
                    have hq := hs1 W; go_simp; first | done | rfl | (simp [addr_zero]; done)
                  refine Flow.pass_val (.pointer (some ⟨bp, 0, none⟩)) (Flow.met_none rfl) (fun a W hH => ?_) ?_
                  · have e0 := Flow.see_old 5 hH.sees (by kernel_rfl) (by kernel_rfl) rfl
                    go_simp; first | done | rfl
                  refine Flow.pass_val (.int .u64 ((q : Nat) : Int)) (Flow.met_none rfl) (fun a W hH => ?_) ?_
                  · have e0 := Flow.see_new 53 4 hH.sees (by kernel_rfl) (by kernel_rfl) rfl rfl
                    have bb : Below wr.heap.size wr W := (Below.refl _ _).drew.trans hH.below; have cc := (bb.cell (p := ⟨bp, 0, none⟩) hbp).trans hcq; go_simp
                  refine Flow.pass_gen (fun v W => ∃ b, v = .slice (some ⟨b, 0, none⟩) 1 1 ∧ Blk W b 24 #[.int .u64 ((q : Nat) : Int)]) (Flow.kept_of (fun _ _ _ c ⟨b, h1, h2⟩ => ⟨b, h1, h2.ext c.ext⟩) Flow.kz_nil) (Flow.met_none rfl) (fun a W hH => ?_) ?_
                  · have e0 := Flow.see_new 54 5 hH.sees (by kernel_rfl) (by kernel_rfl) rfl rfl
                    refine Flow.wp_run (Flow.reg_buildSlice _ rfl (by simp [Act.eval, e0]) (run_u64s W (q : Int))) ?_
                    exact ⟨_, rfl, Chg.of_ext ((Ext.refl W).alloc _), W.heap.size, rfl, Blk.new _ _ _⟩
                  refine Flow.pass_old (X := .slice (some ⟨ob, oo, none⟩) L.length c) 3 (Flow.met_none rfl) (.inl rfl) (by kernel_rfl) (by kernel_rfl) rfl ?_
                  refine Flow.pass_old (X := .int .i64 (k : Int)) 9 (Flow.met_none rfl) (.inl rfl) (by kernel_rfl) (by kernel_rfl) rfl ?_
                  refine Flow.pass_val (.slice A2 (L.length - k) (c - k)) (Flow.met_none rfl) (fun a W hH => ?_) ?_
                  · have e0 := Flow.see_new 56 7 hH.sees (by kernel_rfl) (by kernel_rfl) rfl rfl
                    have e1 := Flow.see_new 57 8 hH.sees (by kernel_rfl) (by kernel_rfl) rfl rfl
                    exact reg_sliceL (by kernel_rfl) rfl e0 e1 (hs2 W)
                  refine Flow.pass_list (fun v W => ∃ A3 c3, v = .slice A3 (1 + (L.length - k)) c3 ∧ Rd W W.heap.size 1 A3 (1 + (L.length - k)) (ucells ([q] ++ L.drop k)) ∧ 1 + (L.length - k) ≤ c3) (Flow.kept_of (fun _ _ _ c ⟨A3, c3, h1, h2, h3⟩ => ⟨A3, c3, h1, (h2.below c.ext).more c.size, h3⟩) Flow.kz_nil) (Flow.met_none rfl) (fun a W hH => ?_) ?_
                  · obtain ⟨b0, e0, q0⟩ := Flow.see_up 55 6 hH.sees (by kernel_rfl) (by kernel_rfl) rfl rfl
                    have e1 := Flow.see_new 58 9 hH.sees (by kernel_rfl) (by kernel_rfl) rfl rfl
                    have bb : Below wr.heap.size wr W := (Below.refl _ _).drew.trans hH.below
                    refine wpList_appF W elU64 rfl _ _ rfl (some ⟨b0, 0, none⟩) 1 (ucells [q]) (by simpa [Act.eval] using e0) (fun h => by cases h) (by have := q0.rd (size := 1) (n := 1) (by simp); simpa [ucells] using this) A2 (L.length - k) (c - k) (ucells (L.drop k)) (by simpa [Act.eval] using e1) ((hR2.below bb).more bb.size) ucells_one (by omega) (by omega) ?_
                    intro A3 c3 W2 hR3 hc3 _ hE3
                    exact Flow.qq_nil ⟨_, rfl, Chg.of_ext hE3, A3, c3, rfl, by simpa [ucells] using hR3, hc3⟩
                  refine Flow.pass_list (fun v W => ∃ A3 c3, v = .slice A3 (k + (1 + (L.length - k))) c3 ∧ Rd W W.heap.size 1 A3 (k + (1 + (L.length - k))) (ucells (L.take k ++ [q] ++ L.drop k)) ∧ k + (1 + (L.length - k)) ≤ c3) (Flow.kept_of (fun _ _ _ c ⟨A3, c3, h1, h2, h3⟩ => ⟨A3, c3, h1, (h2.below c.ext).more c.size, h3⟩) Flow.kz_nil) (Flow.met_none rfl) (fun a W hH => ?_) ?_
                  · have e0 := Flow.see_new 52 3 hH.sees (by kernel_rfl) (by kernel_rfl) rfl rfl
                    obtain ⟨A31, c31, e1, q1⟩ := Flow.see_up 59 10 hH.sees (by kernel_rfl) (by kernel_rfl) rfl rfl
                    have bb : Below wr.heap.size wr W := (Below.refl _ _).drew.trans hH.below
                    refine wpList_appF W elU64 rfl _ _ rfl (some ⟨ob, oo, none⟩) k (ucells (L.take k)) (by simpa [Act.eval] using e0) hA1 ((hR1.below bb).more bb.size) A31 (1 + (L.length - k)) c31 (ucells ([q] ++ L.drop k)) (by simpa [Act.eval] using e1) q1.1 ucells_one (by omega) (by omega) ?_
                    intro A3 c3 W2 hR3 hc3 _ hE3
                    exact Flow.qq_nil ⟨_, rfl, Chg.of_ext hE3, A3, c3, rfl, by simpa [ucells, List.append_assoc] using hR3, hc3⟩
                  refine Flow.pass_copy 60 11 (Flow.met_none rfl) (.inr rfl) (by kernel_rfl) (by kernel_rfl) rfl rfl (Flow.kept_of (fun _ _ _ c ⟨A3, c3, h1, h2, h3⟩ => ⟨A3, c3, h1, (h2.below c.ext).more c.size, h3⟩) Flow.kz_nil) ?_
                  refine Flow.pass_end [none, none, none, some 3, none, none, none, none, none, none, none, none, none, none, none, none, none, none, none, none, none, none, none, none, none, none, none, none, none, none, none, none, none, none, none, none, none, none, none, none, none, none, none, none, none, none, none, none, none, some 49, some 50, some 51, some 52, some 53, some 54, some 55, some 56, some 57, some 58, some 59, some 60, none, none] (by kernel_rfl) ?_
                  intro f gg w9 hB hfa hT hfg
                  obtain ⟨A33, c33, h3, g3⟩ := hT 12 _ (by kernel_rfl) rfl
                  rw [← hfg 3 12 (by kernel_rfl)] at h3
                  have Bw : Below wr.heap.size wr w9 := (Below.refl _ _).drew.trans hB
                  have hlen : (L.take k ++ [q] ++ L.drop k).length = k + (1 + (L.length - k)) := by simp; omega
                  have hB9 := B4.trans (Bw.mono B4.size)
                  simp only [Reg.sel, h3]
                  have hR9 := g3.1
                  have hc9 := g3.2
                  clear hT hfg hfa hB hs1 hs2
                  go_wp2
                  go_roundw
                  case rel => exact ⟨i + 1, by omega, by go_num, L.take k ++ [q] ++ L.drop k, A33, c33, by rw [hlen], by rw [hlen]; exact hc9, fun e => by (subst e; obtain ⟨a, h, _⟩ := hR9.cells (by omega); cases h), by rw [hlen]; omega, Lib.hid HPUT.out, by rw [hlen]; exact hR9, hB9⟩
                  case measure => simp [intOf]; omega
              · have hkL : k = L.length := by omega
                go_wp2
                refine Flow.wp_region_flow (wr.heap.size) [] [] (by kernel_rfl) (by kernel_rfl) (Nat.le_refl _) (fun _ h => by cases h) Flow.facts_nil ?_
                refine Flow.pass_old (X := .int .i64 (k : Int)) 9 (Flow.met_none rfl) (.inl rfl) (by kernel_rfl) (by kernel_rfl) rfl ?_
                refine Flow.pass_old (X := .slice A L.length c) 3 (Flow.met_none rfl) (.inl rfl) (by kernel_rfl) (by kernel_rfl) rfl ?_
                refine Flow.pass_val (.int .i64 (L.length : Int)) (Flow.met_none rfl) (fun a W hH => ?_) ?_
                · have e0 := Flow.see_new 35 1 hH.sees (by kernel_rfl) (by kernel_rfl) rfl rfl
                  go_simp; first | done | rfl
                refine Flow.pass_val (.bool false) (Flow.met_none rfl) (fun a W hH => ?_) ?_
                · have e0 := Flow.see_new 34 0 hH.sees (by kernel_rfl) (by kernel_rfl) rfl rfl
                  have e1 := Flow.see_new 36 2 hH.sees (by kernel_rfl) (by kernel_rfl) rfl rfl
                  go_simp; first | done | rfl | omega | exact decide_eq_true (by omega) | exact decide_eq_false (by omega)
                refine Flow.pass_copy 37 3 (Flow.met_none rfl) (.inl rfl) (by kernel_rfl) (by kernel_rfl) rfl rfl (fun _ _ => Flow.kept_eqs _ _) ?_
                refine Flow.pass_skip (fun a W hH => Flow.not_wanted 4 true 38 hH rfl rfl (by kernel_rfl) (by kernel_rfl) rfl rfl) ?_
                refine Flow.pass_skip (fun a W hH => Flow.not_wanted 4 true 38 hH rfl rfl (by kernel_rfl) (by kernel_rfl) rfl rfl) ?_
                refine Flow.pass_skip (fun a W hH => Flow.not_wanted 4 true 38 hH rfl rfl (by kernel_rfl) (by kernel_rfl) rfl rfl) ?_
                refine Flow.pass_skip (fun a W hH => Flow.not_wanted 4 true 38 hH rfl rfl (by kernel_rfl) (by kernel_rfl) rfl rfl) ?_
                refine Flow.pass_skip (fun a W hH => Flow.not_wanted 4 true 38 hH rfl rfl (by kernel_rfl) (by kernel_rfl) rfl rfl) ?_
                refine Flow.pass_skip (fun a W hH => Flow.not_wanted 4 true 38 hH rfl rfl (by kernel_rfl) (by kernel_rfl) rfl rfl) ?_
                refine Flow.pass_skip (fun a W hH => Flow.not_wanted 4 true 38 hH rfl rfl (by kernel_rfl) (by kernel_rfl) rfl rfl) ?_
                refine Flow.pass_val (.bool false) (Flow.met_none rfl) (fun a W hH => ?_) ?_
                · have e0 := Flow.see_new 38 4 hH.sees (by kernel_rfl) (by kernel_rfl) rfl rfl
                  have e1 := Flow.see_new 45 11 hH.sees (by kernel_rfl) (by kernel_rfl) rfl rfl
                  go_simp; first | done | rfl
                refine Flow.pass_end [none, none, none, none, none, none, none, none, none, none, none, none, none, none, none, none, none, none, none, none, none, none, none, none, none, none, none, none, none, none, none, none, none, none, some 34, some 35, some 36, some 37, some 38, some 39, some 40, some 41, some 42, some 43, some 44, some 45, some 46, none, none, none, none, none, none, none, none, none, none, none, none, none, none, none, none] (by kernel_rfl) ?_
                intro f gg w9 hB hfa hT hfg
                have h46 : f 46 = _ := (hfg 46 12 (by kernel_rfl)).trans (hT 12 _ (by kernel_rfl) rfl)
                simp only [Reg.sel, h46]
                have Bw : Below wr.heap.size wr w9 := (Below.refl _ _).drew.trans hB
                have hR9 := (hR.below Bw).more Bw.size
                have hcq9 := (Bw.cell (p := ⟨bp, 0, none⟩) hbp).trans hcq
                have hbp9 := Nat.lt_of_lt_of_le hbp Bw.size
                have B9 := B4.trans (Bw.mono B4.size)
                have hput := HG.out k hlo.out (fun u hu => by rw [List.getElem?_eq_none (by omega)] at hu; cases hu)
                have HPUT := Lib.hid hput
                clear hT hfg hfa hB hR hcq h46 hput
                have hR := hR9
                have hcq := hcq9
                have hbp := hbp9
                have B4 := B9
                clear hR9 hcq9 hbp9 B9 Bw
                generalize w9 = wr at *
                obtain ⟨hs1, hA1, hR1⟩ := sliceK hR hk hLb.1 hA0
                obtain ⟨A2, hs2, hR2⟩ := sliceD hR hk hLb.1
                have hLn : L.length ≤ 1000000 := by omega
                clear hR
                go_wp2
                refine Flow.wp_region_flow (wr.heap.size) [] [] (by kernel_rfl) (by kernel_rfl) (Nat.le_refl _) (fun _ h => by cases h) Flow.facts_nil ?_
                refine Flow.pass_old (X := .slice A L.length c) 3 (Flow.met_none rfl) (.inl rfl) (by kernel_rfl) (by kernel_rfl) rfl ?_
                refine Flow.pass_old (X := .int .i64 (k : Int)) 9 (Flow.met_none rfl) (.inl rfl) (by kernel_rfl) (by kernel_rfl) rfl ?_
                refine Flow.pass_old (X := .int .i64 (k : Int)) 9 (Flow.met_none rfl) (.inl rfl) (by kernel_rfl) (by kernel_rfl) rfl ?_
                refine Flow.pass_val (.slice A k k) (Flow.met_none rfl) (fun a W hH => ?_) ?_
                · have e0 := Flow.see_new 49 0 hH.sees (by kernel_rfl) (by kernel_rfl) rfl rfl
                  have e1 := Flow.see_new 50 1 hH.sees (by kernel_rfl) (by kernel_rfl) rfl rfl
                  have e2 := Flow.see_new 51 2 hH.sees (by kernel_rfl) (by kernel_rfl) rfl rfl
                  have hq := hs1 W; go_simp; first | done | rfl | (simp [addr_zero]; done)
                refine Flow.pass_val (.pointer (some ⟨bp, 0, none⟩)) (Flow.met_none rfl) (fun a W hH => ?_) ?_
                · have e0 := Flow.see_old 5 hH.sees (by kernel_rfl) (by kernel_rfl) rfl
                  go_simp; first | done | rfl
                refine Flow.pass_val (.int .u64 ((q : Nat) : Int)) (Flow.met_none rfl) (fun a W hH => ?_) ?_
                · have e0 := Flow.see_new 53 4 hH.sees (by kernel_rfl) (by kernel_rfl) rfl rfl
                  have bb : Below wr.heap.size wr W := (Below.refl _ _).drew.trans hH.below; have cc := (bb.cell (p := ⟨bp, 0, none⟩) hbp).trans hcq; go_simp
                refine Flow.pass_gen (fun v W => ∃ b, v = .slice (some ⟨b, 0, none⟩) 1 1 ∧ Blk W b 24 #[.int .u64 ((q : Nat) : Int)]) (Flow.kept_of (fun _ _ _ c ⟨b, h1, h2⟩ => ⟨b, h1, h2.ext c.ext⟩) Flow.kz_nil) (Flow.met_none rfl) (fun a W hH => ?_) ?_
                · have e0 := Flow.see_new 54 5 hH.sees (by kernel_rfl) (by kernel_rfl) rfl rfl
                  refine Flow.wp_run (Flow.reg_buildSlice _ rfl (by simp [Act.eval, e0]) (run_u64s W (q : Int))) ?_
                  exact ⟨_, rfl, Chg.of_ext ((Ext.refl W).alloc _), W.heap.size, rfl, Blk.new _ _ _⟩
                refine Flow.pass_old (X := .slice A L.length c) 3 (Flow.met_none rfl) (.inl rfl) (by kernel_rfl) (by kernel_rfl) rfl ?_
                refine Flow.pass_old (X := .int .i64 (k : Int)) 9 (Flow.met_none rfl) (.inl rfl) (by kernel_rfl) (by kernel_rfl) rfl ?_
                refine Flow.pass_val (.slice A2 (L.length - k) (c - k)) (Flow.met_none rfl) (fun a W hH => ?_) ?_
                · have e0 := Flow.see_new 56 7 hH.sees (by kernel_rfl) (by kernel_rfl) rfl rfl
                  have e1 := Flow.see_new 57 8 hH.sees (by kernel_rfl) (by kernel_rfl) rfl rfl
                  exact reg_sliceL (by kernel_rfl) rfl e0 e1 (hs2 W)
                refine Flow.pass_list (fun v W => ∃ A3 c3, v = .slice A3 (1 + (L.length - k)) c3 ∧ Rd W W.heap.size 1 A3 (1 + (L.length - k)) (ucells ([q] ++ L.drop k)) ∧ 1 + (L.length - k) ≤ c3) (Flow.kept_of (fun _ _ _ c ⟨A3, c3, h1, h2, h3⟩ => ⟨A3, c3, h1, (h2.below c.ext).more c.size, h3⟩) Flow.kz_nil) (Flow.met_none rfl) (fun a W hH => ?_) ?_
                · obtain ⟨b0, e0, q0⟩ := Flow.see_up 55 6 hH.sees (by kernel_rfl) (by kernel_rfl) rfl rfl
                  have e1 := Flow.see_new 58 9 hH.sees (by kernel_rfl) (by kernel_rfl) rfl rfl
                  have bb : Below wr.heap.size wr W := (Below.refl _ _).drew.trans hH.below
                  refine wpList_appF W elU64 rfl _ _ rfl (some ⟨b0, 0, none⟩) 1 (ucells [q]) (by simpa [Act.eval] using e0) (fun h => by cases h) (by have := q0.rd (size := 1) (n := 1) (by simp); simpa [ucells] using this) A2 (L.length - k) (c - k) (ucells (L.drop k)) (by simpa [Act.eval] using e1) ((hR2.below bb).more bb.size) ucells_one (by omega) (by omega) ?_
                  intro A3 c3 W2 hR3 hc3 _ hE3
                  exact Flow.qq_nil ⟨_, rfl, Chg.of_ext hE3, A3, c3, rfl, by simpa [ucells] using hR3, hc3⟩
                refine Flow.pass_list (fun v W => ∃ A3 c3, v = .slice A3 (k + (1 + (L.length - k))) c3 ∧ Rd W W.heap.size 1 A3 (k + (1 + (L.length - k))) (ucells (L.take k ++ [q] ++ L.drop k)) ∧ k + (1 + (L.length - k)) ≤ c3) (Flow.kept_of (fun _ _ _ c ⟨A3, c3, h1, h2, h3⟩ => ⟨A3, c3, h1, (h2.below c.ext).more c.size, h3⟩) Flow.kz_nil) (Flow.met_none rfl) (fun a W hH => ?_) ?_
                · have e0 := Flow.see_new 52 3 hH.sees (by kernel_rfl) (by kernel_rfl) rfl rfl
                  obtain ⟨A31, c31, e1, q1⟩ := Flow.see_up 59 10 hH.sees (by kernel_rfl) (by kernel_rfl) rfl rfl
                  have bb : Below wr.heap.size wr W := (Below.refl _ _).drew.trans hH.below
                  refine wpList_appF W elU64 rfl _ _ rfl A k (ucells (L.take k)) (by simpa [Act.eval] using e0) hA1 ((hR1.below bb).more bb.size) A31 (1 + (L.length - k)) c31 (ucells ([q] ++ L.drop k)) (by simpa [Act.eval] using e1) q1.1 ucells_one (by omega) (by omega) ?_
                  intro A3 c3 W2 hR3 hc3 _ hE3
                  exact Flow.qq_nil ⟨_, rfl, Chg.of_ext hE3, A3, c3, rfl, by simpa [ucells, List.append_assoc] using hR3, hc3⟩
                refine Flow.pass_copy 60 11 (Flow.met_none rfl) (.inr rfl) (by kernel_rfl) (by kernel_rfl) rfl rfl (Flow.kept_of (fun _ _ _ c ⟨A3, c3, h1, h2, h3⟩ => ⟨A3, c3, h1, (h2.below c.ext).more c.size, h3⟩) Flow.kz_nil) ?_
                refine Flow.pass_end [none, none, none, some 3, none, none, none, none, none, none, none, none, none, none, none, none, none, none, none, none, none, none, none, none, none, none, none, none, none, none, none, none, none, none, none, none, none, none, none, none, none, none, none, none, none, none, none, none, none, some 49, some 50, some 51, some 52, some 53, some 54, some 55, some 56, some 57, some 58, some 59, some 60, none, none] (by kernel_rfl) ?_
                intro f gg w9 hB hfa hT hfg
                obtain ⟨A33, c33, h3, g3⟩ := hT 12 _ (by kernel_rfl) rfl
                rw [← hfg 3 12 (by kernel_rfl)] at h3
                have Bw : Below wr.heap.size wr w9 := (Below.refl _ _).drew.trans hB
                have hlen : (L.take k ++ [q] ++ L.drop k).length = k + (1 + (L.length - k)) := by simp; omega
                have hB9 := B4.trans (Bw.mono B4.size)
                simp only [Reg.sel, h3]
                have hR9 := g3.1
                have hc9 := g3.2
                clear hT hfg hfa hB hs1 hs2
                go_wp2
                go_roundw
                case rel => exact ⟨i + 1, by omega, by go_num, L.take k ++ [q] ++ L.drop k, A33, c33, by rw [hlen], by rw [hlen]; exact hc9, fun e => by (subst e; obtain ⟨a, h, _⟩ := hR9.cells (by omega); cases h), by rw [hlen]; omega, Lib.hid HPUT.out, by rw [hlen]; exact hR9, hB9⟩
                case measure => simp [intOf]; omega
    · obtain rfl : i = n := by omega
      have hfin : ps.take i = ps := List.take_of_length_le (by rw [HN.out]; exact Nat.le_refl _)
      have hti := hfin ▸ hT.out
      have htis := hti.is hP3
      go_wp2
      go_ret
      exact ⟨L, A, c, htis, by omega, rfl, hR, hB⟩
end Go.Proofs.YtipdmhppadapkaaGreatDoor
/-
  Plain: what both say of the pages is one list.
-/
namespace Go.Proofs.YtipdmhppadapkaaGreatDoor
open Go.RowKit

theorem rising_eq : ∀ (l1 l2 : List Nat), l1.Pairwise (fun x y => x < y) → l2.Pairwise (fun x y => x < y) → (∀ v, v ∈ l1 ↔ v ∈ l2) → l1 = l2
  | [], [], _, _, _ => rfl
  | [], b :: l2, _, _, h => by have := (h b).2 (by simp); cases this
  | a :: l1, [], _, _, h => by have := (h a).1 (by simp); cases this
  | a :: l1, b :: l2, h1, h2, h => by
    rw [List.pairwise_cons] at h1 h2
    have e : a = b := by
      have ha := List.mem_cons.1 ((h a).1 (by simp))
      have hb := List.mem_cons.1 ((h b).2 (by simp))
      rcases ha with ha | ha
      · exact ha
      · rcases hb with hb | hb
        · exact hb.symm
        · have := h2.1 a ha; have := h1.1 b hb; omega
    subst e
    congr 1
    refine rising_eq l1 l2 h1.2 h2.2 fun v => ⟨fun hv => ?_, fun hv => ?_⟩
    · rcases List.mem_cons.1 ((h v).1 (List.mem_cons_of_mem _ hv)) with e | h3
      · have := h1.1 v hv; omega
      · exact h3
    · rcases List.mem_cons.1 ((h v).2 (List.mem_cons_of_mem _ hv)) with e | h3
      · have := h2.1 v hv; omega
      · exact h3
theorem TouchedIs.one {m : Mm} {l1 l2 : List Nat} (h1 : TouchedIs m l1) (h2 : TouchedIs m l2) : l1 = l2 :=
  rising_eq l1 l2 h1.1 h2.1 fun v => (h1.2 v).trans (h2.2 v).symm

set_option maxRecDepth 100000 in
set_option maxHeartbeats 1000000 in
theorem sameAddr_any (A A2 : Option Addr) (c c2 : Nat) (L : List Nat) (n : Nat) (hn : n = L.length) (hn6 : n ≤ 1000000) (w : World) (h1 : Rd w w.heap.size 1 A n (ucells L)) (h2 : Rd w w.heap.size 1 A2 n (ucells L)) :
    Calls Tryz.prog 22 #[.slice A n c, .slice A2 n c2] w fun e w' => e = .returned (.bool true) ∧ Below w.heap.size w w' := by
  have HN := Lib.hid hn
  clear hn
  go_enter Tryz.func22, Tryz.ntmps22
  go_wp2
  go_loopw [13] (fun v wr => ∃ i : Nat, i ≤ n ∧ v = .int .i64 (i : Int) ∧ Below w.heap.size w wr) (fun v _ => n - (intOf v).toNat)
  case atStart => exact ⟨0, Nat.zero_le _, rfl, Below.refl _ _⟩
  case round =>
    obtain ⟨i, hi, rfl, hB0⟩ := hrel
    have k1 := (h1.below hB0).more hB0.size
    have k2 := (h2.below hB0).more hB0.size
    by_cases hlt : i < n
    · have hil : i < L.length := by rw [← HN.out]; exact hlt
      obtain ⟨b, off, rfl, hb, hrg⟩ := k1.range (by omega)
      obtain ⟨b2, off2, rfl, hb2, hrg2⟩ := k2.range (by omega)
      obtain ⟨v, hv⟩ : ∃ v, v = L[i] := ⟨_, rfl⟩
      have c1 : wr.cell? ⟨b, off + i, none⟩ = some (.int .u64 ((v : Nat) : Int)) := hrg i _ (by simp [ucells, hil, hv])
      have c3 : wr.cell? ⟨b2, off2 + i, none⟩ = some (.int .u64 ((v : Nat) : Int)) := hrg2 i _ (by simp [ucells, hil, hv])
      clear hv hrg hrg2 k1 k2
      go_wp2
      refine Flow.wp_region_flow (wr.heap.size) [] [] (by kernel_rfl) (by kernel_rfl) (Nat.le_refl _) (fun _ h => by cases h) Flow.facts_nil ?_
      refine Flow.pass_old (X := .slice (some ⟨b, off, none⟩) n c) 0 (Flow.met_none rfl) (.inl rfl) (by kernel_rfl) (by kernel_rfl) rfl ?_
      refine Flow.pass_old (X := .int .i64 (i : Int)) 5 (Flow.met_none rfl) (.inl rfl) (by kernel_rfl) (by kernel_rfl) rfl ?_
      refine Flow.pass_val (.pointer (some ⟨b, off + i, none⟩)) (Flow.met_none rfl) (fun a W hH => ?_) ?_
      · have e0 := Flow.see_new 16 0 hH.sees (by kernel_rfl) (by kernel_rfl) rfl rfl
        have e1 := Flow.see_new 17 1 hH.sees (by kernel_rfl) (by kernel_rfl) rfl rfl
        exact s_ixS (s := 1) i _ rfl Tryz.underlying74 (by kernel_rfl) (by first | exact e0 | simpa [Act.eval] using e0 | (simp [Act.eval])) (by first | exact e1 | simpa [Act.eval] using e1 | (simp [Act.eval])) rfl hlt (by omega)
      refine Flow.pass_val (.int .u64 ((v : Nat) : Int)) (Flow.met_none rfl) (fun a W hH => ?_) ?_
      · have e0 := Flow.see_new 18 2 hH.sees (by kernel_rfl) (by kernel_rfl) rfl rfl
        have bb : Below wr.heap.size wr W := (Below.refl _ _).drew.trans hH.below; have cc := (bb.cell (p := ⟨b, off + i, none⟩) hb).trans c1; go_simp
      refine Flow.pass_old (X := .slice (some ⟨b2, off2, none⟩) n c2) 1 (Flow.met_none rfl) (.inl rfl) (by kernel_rfl) (by kernel_rfl) rfl ?_
      refine Flow.pass_old (X := .int .i64 (i : Int)) 5 (Flow.met_none rfl) (.inl rfl) (by kernel_rfl) (by kernel_rfl) rfl ?_
      refine Flow.pass_val (.pointer (some ⟨b2, off2 + i, none⟩)) (Flow.met_none rfl) (fun a W hH => ?_) ?_
      · have e0 := Flow.see_new 20 4 hH.sees (by kernel_rfl) (by kernel_rfl) rfl rfl
        have e1 := Flow.see_new 21 5 hH.sees (by kernel_rfl) (by kernel_rfl) rfl rfl
        exact s_ixS (s := 1) i _ rfl Tryz.underlying74 (by kernel_rfl) (by first | exact e0 | simpa [Act.eval] using e0 | (simp [Act.eval])) (by first | exact e1 | simpa [Act.eval] using e1 | (simp [Act.eval])) rfl hlt (by omega)
      refine Flow.pass_val (.int .u64 ((v : Nat) : Int)) (Flow.met_none rfl) (fun a W hH => ?_) ?_
      · have e0 := Flow.see_new 22 6 hH.sees (by kernel_rfl) (by kernel_rfl) rfl rfl
        have bb : Below wr.heap.size wr W := (Below.refl _ _).drew.trans hH.below; have cc := (bb.cell (p := ⟨b2, off2 + i, none⟩) hb2).trans c3; go_simp
      refine Flow.pass_val (.bool false) (Flow.met_none rfl) (fun a W hH => ?_) ?_
      · have e0 := Flow.see_new 19 3 hH.sees (by kernel_rfl) (by kernel_rfl) rfl rfl
        have e1 := Flow.see_new 23 7 hH.sees (by kernel_rfl) (by kernel_rfl) rfl rfl
        go_simp; first | done | rfl | (simp; done)
      refine Flow.pass_end [none, none, none, none, none, none, none, none, none, none, none, none, none, none, none, none, some 16, some 17, some 18, some 19, some 20, some 21, some 22, some 23, some 24, none] (by kernel_rfl) ?_
      intro f gg w9 hB hfa hT hfg
      have h24 : f 24 = _ := (hfg 24 8 (by kernel_rfl)).trans (hT 8 _ (by kernel_rfl) rfl)
      have B9 := hB0.drew.trans (hB.mono hB0.size)
      simp only [Reg.sel, h24]
      clear hT hfg hfa
      go_wp2
      go_roundw
      case rel => exact ⟨i + 1, by omega, by go_num, B9⟩
      case measure => simp [intOf]; omega
    · obtain rfl : i = n := by omega
      go_wp2
      go_ret
      exact ⟨rfl, hB0⟩
end Go.Proofs.YtipdmhppadapkaaGreatDoor
