/-
  Parts: GcF GcG.
-/
import Derived.Test.YtpellkblaeeopaaGreatDoorC28
import Derived.Test.YtpellkblaeeopaaGreatDoorC15
import Derived.Test.YtpellkblaeeopaaGreatDoorC11
import Derived.Test.YtpellkblaeeopaaGreatDoorC12
/-
  Walk: span.merged.
-/
namespace Go.Proofs.YtpellkblaeeopaaGreatDoor
open Go.RowKit Go.Shelf

attribute [local go_sem] Oper.semAt_some

theorem sgood_stops (A : Option Addr) (n c : Nat) (l : List Sp) (hok : ∀ s ∈ l, s.ok) (hn1 : n ≤ 1000000) (bb n0 : Nat) (Z : Nat → Prop) (hZ1 : Z bb) (w : World) (hn0 : n0 ≤ w.heap.size) (hZl : ∀ b, Z b → b < w.heap.size) (hB1 : Blk w bb 34 #[.slice A n c]) (hR : Rd w n0 2 A n (scells l)) :
    SeqStopsK Fence.wide 5 Tryz.prog 105 #[.pointer (some ⟨bb, 0, none⟩)] enEncs (KBs Z n0) (fun ys => ys = goodE l) (fun pre => pre <+: goodE l) 1000001 w := fun ly Jv Jx W hW hAb _ hY h0 =>
  sgood1_in 5 ly bb n0 (by omega) A n c l hok hn1 Z hZ1 Jv Jx W hAb hY (Nat.le_trans hn0 hW.size) (fun b hb => Nat.lt_of_lt_of_le (hZl b hb) hW.size) (hB1.below hW hB1.lt) (hR.below (hW.mono hn0)) h0

theorem own_isSliceG {w : World} {base size n : Nat} {e : TypeId} {v : Value} {xs : List Value} (h : w.ownsRow base e size v n xs) : ∃ A c, v = .slice A n c := by
  rcases h.2 with ⟨rfl, rfl⟩ | ⟨g, cap, cur, rfl, _⟩
  · exact ⟨none, 0, rfl⟩
  · exact ⟨_, _, rfl⟩
/-- the caller's own cells between two rounds -/
structure MgI (w : World) (SL : Value) (pre : List En) (W : World) : Prop where
  S : ∃ A c, Blk W w.heap.size 147 #[.slice A pre.length c] ∧ W.ownsRow (w.heap.size + 2) 191 2 (.slice A pre.length c) pre.length (ecells pre)
  Bx : Blk W (w.heap.size + 1) 34 #[SL]
  B : Below w.heap.size w W

/-- the frame of a round -/
def mgAx (w : World) (A : Option Addr) (n c : Nat) (x : En) (a' : Act) (W : World) : Prop :=
  ∃ g5, Blk W g5 191 (enC x).toArray ∧ a' = { tmps := #[.slice A n c, undef, .slice none 0 0, .pointer (some ⟨w.heap.size, 0, none⟩), .slice none 0 0, .pointer (some ⟨g5, 0, none⟩), undef, undef, undef, .slice A n c, .func (.func 105) #[] #[.pointer (some ⟨w.heap.size + 1, 0, none⟩)], .agg (enC x).toArray, undef, undef, undef, undef, undef, undef, undef, undef, undef, undef, undef, undef, undef, undef, undef, undef, undef, undef, undef, undef, undef, undef, undef, undef, undef, undef, undef, undef, undef, undef, undef, undef, undef, undef, undef, undef, undef, undef, undef, undef, undef, undef, undef, undef, undef, undef, undef, undef, undef, undef, undef, undef, undef, undef, undef, undef, undef], defers := [] }
theorem elEnds : Elem Tryz.prog 147 191 (.agg #[.int .u64 0, .int .u64 0]) 2 16 := Elem.of (by kernel_rfl) (by kernel_rfl) rfl (by omega)
/-- one stretch more -/
def topA : Nat := 18446744073709551615
def mStep (out : List En) (s : En) : List En := match out.getLast? with
  | some p => if p.2 = topA ∨ s.1 ≤ p.2 + 1 then out.dropLast ++ [(p.1, max p.2 s.2)] else out ++ [s]
  | none => out ++ [s]
def mergeE (l : List En) : List En := l.foldl mStep []
theorem mStep_nil (s : En) : mStep [] s = [s] := rfl
theorem mStep_snoc (o : List En) (p s : En) : mStep (o ++ [p]) s = if p.2 = topA ∨ s.1 ≤ p.2 + 1 then o ++ [(p.1, max p.2 s.2)] else o ++ [p] ++ [s] := by
  simp [mStep]
theorem mergeE_snoc (l : List En) (s : En) : mergeE (l ++ [s]) = mStep (mergeE l) s := by simp [mergeE]
theorem mergeE_len (l : List En) : (mergeE l).length ≤ l.length := by
  suffices h : ∀ (l : List En) (o : List En), (l.foldl mStep o).length ≤ o.length + l.length by simpa [mergeE] using h l []
  intro l; induction l with
  | nil => intro o; simp
  | cons x l ih =>
    intro o
    have := ih (mStep o x)
    have h2 : (mStep o x).length ≤ o.length + 1 := by
      unfold mStep
      split
      · split <;> simp <;> omega
      · simp
    simp only [List.foldl_cons, List.length_cons]; omega
theorem own_setLast {w w' : World} {base g m c : Nat} {o : List En} {p : En} (mx : Nat) (h : w.ownsRow base 191 2 (.slice (some ⟨g, 0, none⟩) m c) m (ecells (o ++ [p]))) {cur : Array Value} (hb : Blk w g 191 cur)
    (hb' : Blk w' g 191 (cur.setIfInBounds (o.length * 2 + 1) (.int .u64 (mx : Int)))) : w'.ownsRow base 191 2 (.slice (some ⟨g, 0, none⟩) m c) m (ecells (o ++ [(p.1, mx)])) := by
  have hl := h.1
  rw [ecells_length] at hl
  rcases h.2 with ⟨h1, _⟩ | ⟨g', cap, cur', h1, h2, h3, h4, h5, h6, h7⟩
  · cases h1
  · cases h1
    have e : cur' = cur := by
      unfold Blk at hb; rw [hb] at h3; cases h3; rfl
    subst e
    refine ⟨by rw [ecells_length]; simp at hl ⊢; omega, .inr ⟨g, c, _, rfl, h2, hb', h4, h5, by simpa using h6, ?_⟩⟩
    have e2 : (cur'.setIfInBounds (o.length * 2 + 1) (.int .u64 (mx : Int))).toList = cur'.toList.set (o.length * 2 + 1) (.int .u64 (mx : Int)) := by simp
    rw [e2, List.take_set, h7, ecells_append, ecells_append, List.set_append_right _ _ (by rw [ecells_length]; omega), ecells_length]
    simp [ecells, enC]
theorem sortedE_perm {L L' : List En} (h : SortedE L L') : L'.Perm L := by
  have h1 := h.1.2.2
  have e1 : L'.toArray.extract 0 L.length = L'.toArray := by rw [← h.2.2, show L'.length = L'.toArray.size by simp]; simp
  have e2 : L.toArray.extract 0 L.length = L.toArray := by rw [show L.length = L.toArray.size by simp]; simp
  rw [e1, e2] at h1
  simpa using h1
theorem mergeE_bound (B : Nat) : ∀ (l : List En), (∀ e ∈ l, e.2 < B) → ∀ e ∈ mergeE l, e.2 < B := by
  suffices h : ∀ (l o : List En), (∀ e ∈ l, e.2 < B) → (∀ e ∈ o, e.2 < B) → ∀ e ∈ l.foldl mStep o, e.2 < B from fun l hl => h l [] hl (by simp)
  intro l; induction l with
  | nil => intro o _ ho; simpa using ho
  | cons x l ih =>
    intro o hl ho
    refine ih _ (fun e he => hl e (by simp [he])) (fun e he => ?_)
    have hx := hl x (by simp)
    rcases List.eq_nil_or_concat o with rfl | ⟨o2, p, hop⟩
    · rw [mStep_nil] at he; rw [List.mem_singleton.1 he]; exact hx
    · rw [List.concat_eq_append] at hop
      subst hop
      have hp := ho p (by simp)
      rw [mStep_snoc] at he
      split at he
      · rcases List.mem_append.1 he with h | h
        · exact ho e (by simp [h])
        · rw [List.mem_singleton.1 h]; simp only; omega
      · rcases List.mem_append.1 he with h | h
        · exact ho e h
        · rw [List.mem_singleton.1 h]; exact hx
theorem goodE_bound {l : List Sp} (hok : ∀ s ∈ l, s.ok) : ∀ e ∈ goodE l, e.1 < 18446744073709551616 ∧ e.2 < 18446744073709551616 := by
  intro e he
  obtain ⟨s, hs, rfl⟩ := List.mem_map.1 he
  have := hok s (List.mem_filter.1 hs).1
  exact ⟨this.base, s.last_lt this⟩
theorem own_baseG {w : World} {b b' size n : Nat} {e : TypeId} {v : Value} {xs : List Value} (h : w.ownsRow b e size v n xs) (hb : b' ≤ b) : w.ownsRow b' e size v n xs := by
  refine ⟨h.1, ?_⟩
  rcases h.2 with h | ⟨g, cap, cur, h1, h2, h3⟩
  · exact .inl h
  · exact .inr ⟨g, cap, cur, h1, by omega, h3⟩
/-- what merged hands back -/
def MergedRet (w : World) (l : List Sp) (e : Ending) (w' : World) : Prop :=
  ∃ srt A c, SortedE (goodE l) srt ∧ e = .returned (.slice A (mergeE srt).length c) ∧ w'.ownsRow w.heap.size 191 2 (.slice A (mergeE srt).length c) (mergeE srt).length (ecells (mergeE srt)) ∧ Below w.heap.size w w'
set_option maxRecDepth 100000 in
set_option maxHeartbeats 4000000 in
theorem merged_any (A : Option Addr) (n c : Nat) (l : List Sp) (hok : ∀ s ∈ l, s.ok) (hn1 : n ≤ 1000000) (w : World) (hR : Rd w w.heap.size 2 A n (scells l)) :
    Calls Tryz.prog 56 #[.slice A n c] w (MergedRet w l) := by
  refine (callsIn_wide (n := 6)).1 ?_
  refine callsIn_of_wp_marks Tryz.func56 rfl trivial ?_ rfl
  simp only [Tryz.ntmps56, List.size_toArray, List.length_cons, List.length_nil, Nat.reduceAdd, Nat.reduceSub, Array.replicate_succ, Array.replicate_zero, List.push_toArray, List.append_toArray, List.nil_append, List.cons_append]
  gi_wp2_with fail
  refine ⟨trivial, (sgood_in Fence.wide 5 trivial rfl A n c _).mono ?_⟩
  rintro e w' ⟨rfl, rfl⟩
  gi_wp2_with fail
  obtain ⟨W2, hW2⟩ : ∃ W2, W2 = (w.alloc (.cells #[.slice none 0 0] 147)).alloc (.cells #[.slice A n c] 34) := ⟨_, rfl⟩
  have hs2 : W2.heap.size = w.heap.size + 2 := by rw [hW2]; simp
  have hB2 : Below w.heap.size w W2 := by rw [hW2]; exact ((Below.refl _ w).alloc (Nat.le_refl _) _).alloc (by simp) _
  have hI0 : MgI w (.slice A n c) [] W2 := by
    rw [hW2]
    refine ⟨⟨none, 0, (Blk.new w _ _).alloc _, World.ownsRow_nil _ _ _ _⟩, ?_, ((Below.refl _ w).alloc (Nat.le_refl _) _).alloc (by simp) _⟩
    have := Blk.new (w.alloc (.cells #[.slice none 0 0] 147)) 34 #[.slice A n c]
    rwa [World.size_alloc] at this
  rw [← hW2]
  clear hW2
  have hp2 : w.heap.size ≤ W2.heap.size := by omega
  refine wpIn_rangeFunc_ownH rfl (by omega) (gf := 105) (lb := #[.pointer (some ⟨w.heap.size + 1, 0, none⟩)]) rfl trivial (enters_of Tryz.func105 (by kernel_rfl) rfl)
    (sgood_stops A n c l hok hn1 (w.heap.size + 1) w.heap.size (fun b => b = w.heap.size + 1) rfl W2 hp2 (fun b hb => by have hb : b = w.heap.size + 1 := hb; omega) hI0.Bx (hR.below hB2)) (fun h k => h.trans k)
    (fun W l o o' hl h h1 h2 => ⟨fun b hb => World.putObj_heap_other (by have hb : b = w.heap.size + 1 := hb; omega), belowK_b (w := W2) hp2 W l o o' hl h h1 h2⟩) (Below.refl _ _) (fun _ => rfl)
    (MgI w (.slice A n c)) (fun _ _ _ => False)
    (fun s W W' row hs hg hr => by
      obtain ⟨⟨A1, c1, h1, h2⟩, h3, h4⟩ := hs
      have hr2 : ∀ r, row = some r → ∃ o : Obj, W.heap[r]? = some o ∧ o.isCells = false := fun r e => (hr r e).2
      exact ⟨⟨A1, c1, blk_keptS h1 hg hr2, own_keptS h2 hg hr2⟩, blk_keptS h3 hg hr2, h4.grown hg h4.size (fun r e => by have := (hr r e).1; omega)⟩)
    (fun _ _ _ _ _ hs _ _ => hs) hI0
    (mgAx w A n c) (fun x a' _ W W' row hs hg hr => by obtain ⟨g5, h1, h2⟩ := hs; exact ⟨g5, blk_keptS h1 hg (fun r e => (hr r e).2), h2⟩) ?assign ?body ?done ?stop
  case assign =>
    rintro ly pre x W K' hI hK
    simp only [enEncs, enC]
    gi_wp2
    have hl3 := hI.Bx.lt
    have hl4 : w.heap.size < W.heap.size := by obtain ⟨_, _, h, _⟩ := hI.S; exact h.lt
    have hC3 : Chg (fun b => b = W.heap.size) W (W.alloc (.cells #[.int .u64 (x.1 : Int), .int .u64 (x.2 : Int)] 191)) := (Chg.refl _ W).alloc _
    have hI2 : MgI w (.slice A n c) pre (W.alloc (.cells #[.int .u64 (x.1 : Int), .int .u64 (x.2 : Int)] 191)) := by
      obtain ⟨⟨A1, c1, h1, h2⟩, h3, h4⟩ := hI
      exact ⟨⟨A1, c1, h1.alloc _, own_chg h2 (Chg.of_ext ((Ext.refl W).alloc _)) (fun _ _ => id)⟩, h3.alloc _, h4.alloc h4.size _⟩
    refine hK _ _ (KeepsOthers.from (KeepsOthers.alloc _ _) _) ⟨fun b hb => hC3.block b (by have hb : b = w.heap.size + 1 := hb; omega) (by have hb : b = w.heap.size + 1 := hb; omega), (Below.refl _ W).alloc (by omega) _⟩ hI2 ⟨W.heap.size, Blk.new W _ _, rfl⟩
  case body =>
    rintro ly pre x a' wr hl ⟨r, hr⟩ ⟨⟨A1, c1, hS, hO⟩, hBx, hB⟩ ⟨g5, hX5, rfl⟩ hlen
    have hcell : wr.cell? ⟨w.heap.size, 0, none⟩ = some (.slice A1 pre.length c1) := (hS.cell 0).trans rfl
    have x0 : wr.cell? ⟨g5, 0, none⟩ = some (.int .u64 (x.1 : Int)) := (hX5.cell 0).trans rfl
    have x1 : wr.cell? ⟨g5, 1, none⟩ = some (.int .u64 (x.2 : Int)) := (hX5.cell 1).trans rfl
    obtain ⟨i, hi2, hi3, hi4, hi5⟩ := elEnds.info
    have hszW := hS.lt
    have hO1 := own_chg hO (Chg.of_ext ((Ext.refl wr).alloc (.cells #[.int .u64 (x.1 : Int), .int .u64 (x.2 : Int)] 191))) (fun _ _ => id)
    have hS1 := hS.alloc (.cells #[.int .u64 (x.1 : Int), .int .u64 (x.2 : Int)] 191)
    have hBx1 := hBx.alloc (.cells #[.int .u64 (x.1 : Int), .int .u64 (x.2 : Int)] 191)
    have hN1 := Blk.new wr 191 #[.int .u64 (x.1 : Int), .int .u64 (x.2 : Int)]
    have hob : ∀ r, (Value.slice A1 pre.length c1).ownBlock = some r → w.heap.size + 2 ≤ r ∧ r < wr.heap.size := fun r hr => hO.lt r hr
    have hB1' : Below w.heap.size w (wr.alloc (.cells #[.int .u64 (x.1 : Int), .int .u64 (x.2 : Int)] 191)) := hB.alloc hB.size _
    have hbxl := hBx.lt
    gi_wp2_with ((with_reducible refine sIn_append 147 ?_); refine wpListIn_append_own _ rfl _ _ _ rfl (w.heap.size + 2) 191 i (.agg #[.int .u64 0, .int .u64 0]) 2 16 elEnds.under hi2 hi3 hi4 hi5 rfl (by omega) (.slice A1 pre.length c1) pre.length (ecells pre) rfl hO1 ⟨wr.heap.size, 0, none⟩ 1 1 [.int .u64 (x.1 : Int), .int .u64 (x.2 : Int)] rfl rfl (fun j u hj => by match j, hj with | 0, hj => exact (hN1.cell 0).trans hj | 1, hj => exact (hN1.cell 1).trans hj | _ + 2, hj => cases hj) (fun u hu => by simp only [List.mem_cons, List.not_mem_nil, or_false] at hu; rcases hu with rfl | rfl <;> rfl) (by simp only [maxLen]; omega) (by omega) (by simp; omega) ?_; intro v' w3 hO3 hg3 hnil; obtain ⟨A', c', rfl⟩ := own_isSliceG hO3; have hS3 := hS1.grown hg3 (fun e => by have := (hob _ e.symm).1; omega); have hcell3 : w3.cell? ⟨w.heap.size, 0, none⟩ = some (.slice A1 pre.length c1) := (hS3.cell 0).trans rfl; have hfr3 := hS3.frozen 0)
    have hob3 : ∀ r, (Value.slice A' (pre.length + 1) c').ownBlock = some r → w.heap.size + 2 ≤ r := fun r hr => (hO3.lt r hr).1
    obtain ⟨w4, hw4⟩ : ∃ w4, w4 = w3.setCell ⟨w.heap.size, 0, none⟩ (.slice A' (pre.length + 1) c') := ⟨_, rfl⟩
    have hC4 : Chg (fun b => b = w.heap.size ∨ (Value.slice A1 pre.length c1).ownBlock = some b) wr w4 := by
      rw [hw4]
      exact (((Chg.refl _ wr).alloc _).trans (Chg.grown hg3 (fun b hb => .inr hb))).trans (Chg.grown (s_grown _ _ _ _) (by rintro j h; cases h; exact .inl rfl))
    have hK : KeepsOthers wr w4 := by
      rw [hw4]
      exact ((KeepsOthers.alloc wr _).trans (KeepsOthers.of_grownBy hg3 (fun j o hj ho => own_cellsS hO1 hj ho))).trans (KeepsOthers.setCell _ _ _)
    have hlen1 : (pre ++ [x]).length = pre.length + 1 := by simp
    have hBB : Below w.heap.size wr w4 := hC4.below (fun b hb => by
      rcases hb with hb | hb
      · omega
      · have := (hob b hb).1; omega) hB.size
    rw [← hw4]
    refine ⟨hK.from _, ⟨fun b hb => ?_, hBB⟩, ⟨⟨A', c', ?_, ?_⟩, ?_, hB.trans hBB⟩⟩
    · have hb : b = w.heap.size + 1 := hb
      subst hb
      refine hC4.block _ hbxl ?_
      rintro (h | h)
      · omega
      · have := (hob _ h).1; omega
    · rw [hlen1, hw4]; exact hS3.set_ 0 _
    · rw [hlen1, ecells_append, hw4]
      exact own_chg hO3 (Chg.grown (Z := fun b => b = w.heap.size) (s_grown _ _ _ _) (by rintro j h; cases h; rfl)) (fun r hr e => by have := hob3 r hr; omega)
    · exact hBx.chg hC4 (by
        rintro (h | h)
        · omega
        · have := (hob _ h).1; omega)
  case done =>
    rintro D ys W hD rfl ⟨⟨A1, c1, hS, hO⟩, _, hB⟩ hK
    have hNle := goodE_length l
    have hln : l.length = n := by have := hR.len; rw [scells_length] at this; omega
    obtain ⟨N, hN⟩ : ∃ N, N = (goodE l).length := ⟨_, rfl⟩
    rw [← hN] at hS hO hNle
    have hcell : W.cell? ⟨w.heap.size, 0, none⟩ = some (.slice A1 N c1) := (hS.cell 0).trans rfl
    have HN := Lib.hid hN
    have HOK := Lib.hid hok
    clear hN hI0 hB2 hok hR
    gi_wp2_with fail
    refine ⟨trivial, ((callsIn_wide (n := 5)).2 (sortEnds_any (w.heap.size + 2) _ N (by omega) (goodE l) W hO)).mono ?_⟩
    rintro e W3 ⟨rfl, srt, hSrt, hO3, hC3⟩
    have hobl : ∀ r, (Value.slice A1 N c1).ownBlock = some r → w.heap.size + 2 ≤ r ∧ r < W.heap.size := fun r hr => hO.lt r hr
    have hS3 := hS.chg hC3 (fun e => by have := (hobl _ e).1; omega)
    have hcell3 : W3.cell? ⟨w.heap.size, 0, none⟩ = some (.slice A1 N c1) := (hS3.cell 0).trans rfl
    have hDl : D < W.heap.size := (Array.getElem?_eq_some_iff.1 hK).1
    have hK3 : W3.heap[D]? = some (.deferred (some [])) := (hC3.block D hDl (fun e => by have := own_cellsS hO e hK; cases this)).trans hK
    have B3 : Below w.heap.size w W3 := hB.trans (hC3.below (fun b hb => by have := (hobl b hb).1; omega) hB.size)
    have hsl : srt.length = N := by rw [hSrt.2.2, HN.out]
    have hR3 := Rd.of_own hO3
    have HS := Lib.hid hSrt
    have HBD : Hid (∀ e ∈ srt, e.2 < 18446744073709551616) := Lib.hid (fun e he => (goodE_bound HOK.out e ((sortedE_perm hSrt).mem_iff.1 he)).2)
    have HSL := Lib.hid hsl
    clear hC3 hS hO hcell hK hB hS3 hO3 hSrt hsl hobl
    gi_wp2
    gi_loopw [4, 20] (fun o i wr => ∃ k : Nat, k ≤ N ∧ i = .int .i64 (k : Int) ∧ ∃ m A2 c2, m = (mergeE (srt.take k)).length ∧ o = .slice A2 m c2 ∧ wr.ownsRow W3.heap.size 191 2 (.slice A2 m c2) m (ecells (mergeE (srt.take k))) ∧ Below W3.heap.size W3 wr) (fun _ i _ => N - (intOf i).toNat)
    case atStart => exact ⟨0, Nat.zero_le _, rfl, 0, none, 0, rfl, rfl, World.ownsRow_nil _ _ _ _, Below.refl _ _⟩
    case round =>
      obtain ⟨k, hk, rfl, m, A2, c2, hm, rfl, hO4, hB4⟩ := hrel
      have hmk : m ≤ k := by rw [hm]; exact Nat.le_trans (mergeE_len _) (by rw [List.length_take]; omega)
      have HM := Lib.hid hm
      clear hm
      by_cases hlt : k < N
      · obtain ⟨x, hx⟩ : ∃ x, srt[k]? = some x := ⟨_, List.getElem?_eq_getElem (by rw [HSL.out]; exact hlt)⟩
        obtain ⟨b1, o1, rfl, hb1, hr1⟩ := (hR3.below hB4).range (by omega)
        have hks : k < srt.length := by rw [HSL.out]; exact hlt
        have hx' : srt[k] = x := by rw [List.getElem?_eq_getElem hks] at hx; exact Option.some.inj hx
        have e0 : (ecells srt)[k * 2]? = some (.int .u64 (x.1 : Int)) := by rw [ecells_get _ _ (by omega), show k * 2 / 2 = k by omega, show k * 2 % 2 = 0 by omega]; simp [hks, hx', enC]
        have e1 : (ecells srt)[k * 2 + 1]? = some (.int .u64 (x.2 : Int)) := by rw [ecells_get _ _ (by omega), show (k * 2 + 1) / 2 = k by omega, show (k * 2 + 1) % 2 = 1 by omega]; simp [hks, hx', enC]
        have r0 : wr.cell? ⟨b1, o1 + k * 2, none⟩ = some (.int .u64 (x.1 : Int)) := hr1 _ _ e0
        have r1 : wr.cell? ⟨b1, o1 + k * 2 + 1, none⟩ = some (.int .u64 (x.2 : Int)) := hr1 _ _ e1
        have hst : mergeE (srt.take (k + 1)) = mStep (mergeE (srt.take k)) x := by rw [List.take_add_one, hx]; exact mergeE_snoc _ _
        have HST := Lib.hid hst
        have hxb : x.2 < 18446744073709551616 := HBD.out x (List.mem_of_getElem? hx)
        clear hx hx' e0 e1 hr1 hst
        obtain ⟨out, hout⟩ : ∃ out, out = mergeE (srt.take k) := ⟨_, rfl⟩
        have HMB : Hid (∀ e ∈ out, e.2 < 18446744073709551616) := Lib.hid (by rw [hout]; exact mergeE_bound _ _ (fun e he => HBD.out e (List.mem_of_mem_take he)))
        rw [← hout] at HM hO4 HST
        have gx := Blk.new wr 191 (enC x).toArray
        have E1 : Ext wr (wr.alloc (.cells (enC x).toArray 191)) := (Ext.refl wr).alloc _
        have hg7l : wr.heap.size < (wr.alloc (.cells (enC x).toArray 191)).heap.size := gx.lt
        have hO5 := own_chg hO4 (Chg.of_ext E1) (fun _ _ => id)
        have B5 := hB4.trans (E1.mono hB4.size)
        gi_wp2
        change Code.wpIn _ _ _ _ _ _ (wr.alloc (.cells (enC x).toArray 191))
        generalize wr.alloc (.cells (enC x).toArray 191) = w1 at *
        have hc7 : w1.cell? ⟨wr.heap.size, 0, none⟩ = some (.int .u64 (x.1 : Int)) := (gx.cell 0).trans rfl
        clear hout r0 r1 hO4 E1 hB4
        rcases List.eq_nil_or_concat out with rfl | ⟨o, p, hop⟩
        · have HX : Hid (mergeE (srt.take (k + 1)) = [] ++ [x]) := Lib.hid HST.out
          obtain rfl : m = 0 := HM.out
          refine Flow.wpIn_region_flow Plain.wide (by kernel_rfl) (w1.heap.size) [] [] (by kernel_rfl) (by kernel_rfl) (Nat.le_refl _) (fun _ h => by cases h) Flow.facts_nil ?_
          refine Flow.pass_old (X := .int .i64 0) 8 (Flow.met_none rfl) (.inl rfl) (by kernel_rfl) (by kernel_rfl) rfl ?_
          refine Flow.pass_val (.bool false) (Flow.met_none rfl) (fun a W hH => ?_) ?_
          · have e0 := Flow.see_new 26 0 hH.sees (by kernel_rfl) (by kernel_rfl) rfl rfl
            go_simp; first | done | rfl
          refine Flow.pass_copy 27 1 (Flow.met_none rfl) (.inl rfl) (by kernel_rfl) (by kernel_rfl) rfl rfl (fun _ _ => Flow.kept_eqs _ _) ?_
          refine Flow.pass_skip (fun a W hH => Flow.not_wanted 2 true 28 hH rfl rfl (by kernel_rfl) (by kernel_rfl) rfl rfl) ?_
          refine Flow.pass_skip (fun a W hH => Flow.not_wanted 2 true 28 hH rfl rfl (by kernel_rfl) (by kernel_rfl) rfl rfl) ?_
          refine Flow.pass_skip (fun a W hH => Flow.not_wanted 2 true 28 hH rfl rfl (by kernel_rfl) (by kernel_rfl) rfl rfl) ?_
          refine Flow.pass_skip (fun a W hH => Flow.not_wanted 2 true 28 hH rfl rfl (by kernel_rfl) (by kernel_rfl) rfl rfl) ?_
          refine Flow.pass_skip (fun a W hH => Flow.not_wanted 2 true 28 hH rfl rfl (by kernel_rfl) (by kernel_rfl) rfl rfl) ?_
          refine Flow.pass_skip (fun a W hH => Flow.not_wanted 2 true 28 hH rfl rfl (by kernel_rfl) (by kernel_rfl) rfl rfl) ?_
          refine Flow.pass_skip (fun a W hH => Flow.not_wanted 2 true 28 hH rfl rfl (by kernel_rfl) (by kernel_rfl) rfl rfl) ?_
          refine Flow.pass_skip (fun a W hH => Flow.not_wanted 2 true 28 hH rfl rfl (by kernel_rfl) (by kernel_rfl) rfl rfl) ?_
          refine Flow.pass_skip (fun a W hH => Flow.not_wanted_undef 10 false 36 hH rfl rfl (by kernel_rfl) (by kernel_rfl) rfl rfl) ?_
          refine Flow.pass_skip (fun a W hH => Flow.not_wanted_undef 10 false 36 hH rfl rfl (by kernel_rfl) (by kernel_rfl) rfl rfl) ?_
          refine Flow.pass_skip (fun a W hH => Flow.not_wanted_undef 10 false 36 hH rfl rfl (by kernel_rfl) (by kernel_rfl) rfl rfl) ?_
          refine Flow.pass_skip (fun a W hH => Flow.not_wanted_undef 10 false 36 hH rfl rfl (by kernel_rfl) (by kernel_rfl) rfl rfl) ?_
          refine Flow.pass_skip (fun a W hH => Flow.not_wanted_undef 10 false 36 hH rfl rfl (by kernel_rfl) (by kernel_rfl) rfl rfl) ?_
          refine Flow.pass_skip (fun a W hH => Flow.not_wanted_undef 10 false 36 hH rfl rfl (by kernel_rfl) (by kernel_rfl) rfl rfl) ?_
          refine Flow.pass_skip (fun a W hH => Flow.not_wanted_undef 10 false 36 hH rfl rfl (by kernel_rfl) (by kernel_rfl) rfl rfl) ?_
          refine Flow.pass_skip (fun a W hH => Flow.not_wanted_undef 10 false 36 hH rfl rfl (by kernel_rfl) (by kernel_rfl) rfl rfl) ?_
          refine Flow.pass_skip (fun a W hH => Flow.not_wanted_undef 10 false 36 hH rfl rfl (by kernel_rfl) (by kernel_rfl) rfl rfl) ?_
          refine Flow.pass_skip (fun a W hH => Flow.not_wanted_undef 10 false 36 hH rfl rfl (by kernel_rfl) (by kernel_rfl) rfl rfl) ?_
          refine Flow.pass_skip (fun a W hH => Flow.not_wanted 2 true 28 hH rfl rfl (by kernel_rfl) (by kernel_rfl) rfl rfl) ?_
          refine Flow.pass_val (.bool false) (Flow.met_none rfl) (fun a W hH => ?_) ?_
          · have e0 := Flow.see_new 28 2 hH.sees (by kernel_rfl) (by kernel_rfl) rfl rfl
            have e1 := Flow.see_new 47 21 hH.sees (by kernel_rfl) (by kernel_rfl) rfl rfl
            go_simp; first | done | rfl
          refine Flow.pass_end [none, none, none, none, none, none, none, none, none, none, none, none, none, none, none, none, none, none, none, none, none, none, none, none, none, none, some 26, some 27, some 28, some 29, some 30, some 31, some 32, some 33, some 34, some 35, some 36, some 37, some 38, some 39, some 40, some 41, some 42, some 43, some 44, some 45, some 46, some 47, some 48, none, none, none, none, none, none, none, none, none, none, none, none, none, none, none, none, none, none, none, none] (by kernel_rfl) ?_
          intro f gg w9 hB hfa hT hfg
          have h48 : f 48 = _ := (hfg 48 22 (by kernel_rfl)).trans (hT 22 _ (by kernel_rfl) rfl)
          refine ⟨rfl, ?_⟩
          have hE : Ext w1 w9 := ⟨hB.os, hB.tape, hB.output, hB.size, fun k hk => hB.block k hk⟩
          have hO9 := own_chg hO5 (Chg.of_ext hE) (fun _ _ => id)
          have B9 := B5.trans (hE.mono B5.size)
          have g9 := gx.ext hE
          simp only [Reg.sel, h48]
          clear hT hfg hfa hB hE hO5 B5 gx hc7
          obtain ⟨i, hi2, hi3, hi4, hi5⟩ := elEnds.info
          have hO10 := own_chg hO9 (Chg.of_ext ((Ext.refl w9).alloc (.cells #[.int .u64 (x.1 : Int), .int .u64 (x.2 : Int)] 191))) (fun _ _ => id)
          have hN1 := Blk.new w9 191 #[.int .u64 (x.1 : Int), .int .u64 (x.2 : Int)]
          have hB10 : Below W3.heap.size W3 (w9.alloc (.cells #[.int .u64 (x.1 : Int), .int .u64 (x.2 : Int)] 191)) := B9.alloc B9.size _
          have hbs := B9.size
          have cx0 : w9.cell? ⟨wr.heap.size, 0, none⟩ = some (.int .u64 (x.1 : Int)) := (g9.cell 0).trans rfl
          have cx1 : w9.cell? ⟨wr.heap.size, 1, none⟩ = some (.int .u64 (x.2 : Int)) := (g9.cell 1).trans rfl
          gi_wp2_with ((with_reducible refine sIn_append 147 ?_); refine wpListIn_append_own _ rfl _ _ _ rfl W3.heap.size 191 i (.agg #[.int .u64 0, .int .u64 0]) 2 16 elEnds.under hi2 hi3 hi4 hi5 rfl (by omega) (.slice A2 0 c2) 0 (ecells []) rfl hO10 ⟨w9.heap.size, 0, none⟩ 1 1 [.int .u64 (x.1 : Int), .int .u64 (x.2 : Int)] rfl rfl (fun j u hj => by match j, hj with | 0, hj => exact (hN1.cell 0).trans hj | 1, hj => exact (hN1.cell 1).trans hj | _ + 2, hj => cases hj) (fun u hu => by simp only [List.mem_cons, List.not_mem_nil, or_false] at hu; rcases hu with rfl | rfl <;> rfl) (by simp only [maxLen]; omega) (by omega) (by simp; omega) ?_; intro v' w3 hO3 hg3 hnil; obtain ⟨A', c', rfl⟩ := own_isSliceG hO3)
          have hlen3 : 0 + 1 = (mergeE (srt.take (k + 1))).length := by rw [HX.out]; simp
          have hO11 : w3.ownsRow W3.heap.size 191 2 (.slice A' (0 + 1) c') (0 + 1) (ecells (mergeE (srt.take (k + 1)))) := by rw [HX.out, ecells_append]; exact hO3
          have hB11 : Below W3.heap.size W3 w3 := hB10.grown hg3 hB10.size (fun r e => (hO10.lt r e).1)
          clear hO3 hO10 hN1 hO9 g9
          go_roundw
          case rel => exact ⟨k + 1, by omega, by simp, 0 + 1, A', c', hlen3, rfl, hO11, hB11⟩
          case measure => simp [intOf]; omega
        · rw [List.concat_eq_append] at hop
          subst hop
          have HM2 : Hid (m = o.length + 1) := Lib.hid (by have := HM.out; simpa using this)
          obtain ⟨q, hq⟩ : ∃ q, q = o.length := ⟨_, rfl⟩
          have hmq : m = q + 1 := by rw [HM2.out, hq]
          have HQ := Lib.hid hq
          have hq1 : (m : Int) - 1 = (q : Int) := by omega
          have hm0 : 0 < (m : Int) := by omega
          have HMQ := Lib.hid hmq
          rcases hO5.2 with ⟨_, h0⟩ | ⟨g2, cap, cur, h1, h2, h3, h4, h5, h6, h7⟩
          · omega
          cases h1
          have hb2 : Blk w1 g2 191 cur := h3
          have hg2l := hb2.lt
          have hqs : q * 2 + 1 < cur.size := by rw [h6]; omega
          have hcur : cur[q * 2 + 1]? = some (.int .u64 (p.2 : Int)) := by
            have e1 : (cur.toList.take (m * 2))[q * 2 + 1]? = some (.int .u64 (p.2 : Int)) := by
              rw [h7, ecells_append, List.getElem?_append_right (by rw [ecells_length, HQ.out]; omega), ecells_length, HQ.out, show o.length * 2 + 1 - o.length * 2 = 1 by omega]; rfl
            rw [List.getElem?_take, if_pos (by omega)] at e1
            simpa using e1
          have hcq : w1.cell? ⟨g2, q * 2 + 1, none⟩ = some (.int .u64 (p.2 : Int)) := (hb2.cell _).trans hcur
          have hpb : p.2 < 18446744073709551616 ∧ x.2 < 18446744073709551616 := ⟨HMB.out p (by simp), hxb⟩
          have hmx : (if (p.2 : Int) < (x.2 : Int) then (x.2 : Int) else (p.2 : Int)) = ((max p.2 x.2 : Nat) : Int) := by
            rw [Nat.max_def]; split <;> split <;> omega
          have hmc : (m : Int) ≤ (c2 : Int) := by omega
          clear h3 h4 h5 h6 h7 hq hmq
          generalize wr.heap.size = g7 at *
          by_cases htop : p.2 = 18446744073709551615
          · have HX : Hid (mergeE (srt.take (k + 1)) = o ++ [(p.1, max p.2 x.2)]) := Lib.hid (by rw [HST.out, mStep_snoc, if_pos (.inl htop)])
            refine Flow.wpIn_region_flow Plain.wide (by kernel_rfl) (w1.heap.size) [] [] (by kernel_rfl) (by kernel_rfl) (Nat.le_refl _) (fun _ h => by cases h) Flow.facts_nil ?_
            refine Flow.pass_old (X := .int .i64 (m : Int)) 8 (Flow.met_none rfl) (.inl rfl) (by kernel_rfl) (by kernel_rfl) rfl ?_
            refine Flow.pass_val (.bool true) (Flow.met_none rfl) (fun a W hH => ?_) ?_
            · have e0 := Flow.see_new 26 0 hH.sees (by kernel_rfl) (by kernel_rfl) rfl rfl
              go_simp; first | done | rfl | omega
            refine Flow.pass_copy 27 1 (Flow.met_none rfl) (.inl rfl) (by kernel_rfl) (by kernel_rfl) rfl rfl (fun _ _ => Flow.kept_eqs _ _) ?_
            refine Flow.pass_old (X := .slice (some ⟨g2, 0, none⟩) m c2) 4 (Flow.met_some 2 true 28 rfl rfl (by kernel_rfl) (by kernel_rfl) rfl rfl) (.inl rfl) (by kernel_rfl) (by kernel_rfl) rfl ?_
            refine Flow.pass_old (X := .int .i64 (m : Int)) 8 (Flow.met_some 2 true 28 rfl rfl (by kernel_rfl) (by kernel_rfl) rfl rfl) (.inl rfl) (by kernel_rfl) (by kernel_rfl) rfl ?_
            refine Flow.pass_val (.int .i64 (q : Int)) (Flow.met_some 2 true 28 rfl rfl (by kernel_rfl) (by kernel_rfl) rfl rfl) (fun a W hH => ?_) ?_
            · have e0 := Flow.see_new 30 4 hH.sees (by kernel_rfl) (by kernel_rfl) rfl rfl
              go_simp; first | done | rfl | (rw [hq1]; done) | omega | (exact IntWalk.i64_in _ (by omega))
            refine Flow.pass_val (.pointer (some ⟨g2, q * 2, none⟩)) (Flow.met_some 2 true 28 rfl rfl (by kernel_rfl) (by kernel_rfl) rfl rfl) (fun a W hH => ?_) ?_
            · have e0 := Flow.see_new 29 3 hH.sees (by kernel_rfl) (by kernel_rfl) rfl rfl
              have e1 := Flow.see_new 31 5 hH.sees (by kernel_rfl) (by kernel_rfl) rfl rfl
              go_simp; first | done | rfl | (intro h; exact absurd h (by omega))
            refine Flow.pass_val (.pointer (some ⟨g2, q * 2 + 1, none⟩)) (Flow.met_some 2 true 28 rfl rfl (by kernel_rfl) (by kernel_rfl) rfl rfl) (fun a W hH => ?_) ?_
            · have e0 := Flow.see_new 32 6 hH.sees (by kernel_rfl) (by kernel_rfl) rfl rfl
              go_simp; first | done | rfl
            refine Flow.pass_val (.int .u64 (p.2 : Int)) (Flow.met_some 2 true 28 rfl rfl (by kernel_rfl) (by kernel_rfl) rfl rfl) (fun a W hH => ?_) ?_
            · have e0 := Flow.see_new 33 7 hH.sees (by kernel_rfl) (by kernel_rfl) rfl rfl
              have cc : World.cell? W ⟨g2, q * 2 + 1, none⟩ = some (.int .u64 (p.2 : Int)) := (hH.below.cell (p := ⟨g2, q * 2 + 1, none⟩) hg2l).trans hcq; go_simp; first | done | rfl
            refine Flow.pass_val (.bool true) (Flow.met_some 2 true 28 rfl rfl (by kernel_rfl) (by kernel_rfl) rfl rfl) (fun a W hH => ?_) ?_
            · have e0 := Flow.see_new 34 8 hH.sees (by kernel_rfl) (by kernel_rfl) rfl rfl
              go_simp; first | done | rfl | (simp [htop]; done) | (simp; done) | (simp; omega) | omega
            refine Flow.pass_copy 35 9 (Flow.met_some 2 true 28 rfl rfl (by kernel_rfl) (by kernel_rfl) rfl rfl) (.inl rfl) (by kernel_rfl) (by kernel_rfl) rfl rfl (fun _ _ => Flow.kept_eqs _ _) ?_
            refine Flow.pass_skip (fun a W hH => Flow.not_wanted 10 false 36 hH rfl rfl (by kernel_rfl) (by kernel_rfl) rfl rfl) ?_
            refine Flow.pass_skip (fun a W hH => Flow.not_wanted 10 false 36 hH rfl rfl (by kernel_rfl) (by kernel_rfl) rfl rfl) ?_
            refine Flow.pass_skip (fun a W hH => Flow.not_wanted 10 false 36 hH rfl rfl (by kernel_rfl) (by kernel_rfl) rfl rfl) ?_
            refine Flow.pass_skip (fun a W hH => Flow.not_wanted 10 false 36 hH rfl rfl (by kernel_rfl) (by kernel_rfl) rfl rfl) ?_
            refine Flow.pass_skip (fun a W hH => Flow.not_wanted 10 false 36 hH rfl rfl (by kernel_rfl) (by kernel_rfl) rfl rfl) ?_
            refine Flow.pass_skip (fun a W hH => Flow.not_wanted 10 false 36 hH rfl rfl (by kernel_rfl) (by kernel_rfl) rfl rfl) ?_
            refine Flow.pass_skip (fun a W hH => Flow.not_wanted 10 false 36 hH rfl rfl (by kernel_rfl) (by kernel_rfl) rfl rfl) ?_
            refine Flow.pass_skip (fun a W hH => Flow.not_wanted 10 false 36 hH rfl rfl (by kernel_rfl) (by kernel_rfl) rfl rfl) ?_
            refine Flow.pass_skip (fun a W hH => Flow.not_wanted 10 false 36 hH rfl rfl (by kernel_rfl) (by kernel_rfl) rfl rfl) ?_
            refine Flow.pass_skip (fun a W hH => Flow.not_wanted 10 false 36 hH rfl rfl (by kernel_rfl) (by kernel_rfl) rfl rfl) ?_
            refine Flow.pass_val (.bool true) (Flow.met_some 2 true 28 rfl rfl (by kernel_rfl) (by kernel_rfl) rfl rfl) (fun a W hH => ?_) ?_
            · have e0 := Flow.see_new 36 10 hH.sees (by kernel_rfl) (by kernel_rfl) rfl rfl
              have e1 := Flow.see_new 46 20 hH.sees (by kernel_rfl) (by kernel_rfl) rfl rfl
              go_simp; first | done | rfl | (simp [htop]; done) | (simp; done) | (simp; omega) | omega
            refine Flow.pass_val (.bool true) (Flow.met_none rfl) (fun a W hH => ?_) ?_
            · have e0 := Flow.see_new 28 2 hH.sees (by kernel_rfl) (by kernel_rfl) rfl rfl
              have e1 := Flow.see_new 47 21 hH.sees (by kernel_rfl) (by kernel_rfl) rfl rfl
              go_simp; first | done | rfl | (simp [htop]; done) | (simp; done) | (simp; omega) | omega
            refine Flow.pass_end [none, none, none, none, none, none, none, none, none, none, none, none, none, none, none, none, none, none, none, none, none, none, none, none, none, none, some 26, some 27, some 28, some 29, some 30, some 31, some 32, some 33, some 34, some 35, some 36, some 37, some 38, some 39, some 40, some 41, some 42, some 43, some 44, some 45, some 46, some 47, some 48, none, none, none, none, none, none, none, none, none, none, none, none, none, none, none, none, none, none, none, none] (by kernel_rfl) ?_
            intro f gg w9 hB hfa hT hfg
            have h48 : f 48 = _ := (hfg 48 22 (by kernel_rfl)).trans (hT 22 _ (by kernel_rfl) rfl)
            refine ⟨rfl, ?_⟩
            have hE : Ext w1 w9 := ⟨hB.os, hB.tape, hB.output, hB.size, fun k hk => hB.block k hk⟩
            have hO9 := own_chg hO5 (Chg.of_ext hE) (fun _ _ => id)
            have B9 := B5.trans (hE.mono B5.size)
            have g9 := gx.ext hE
            have hb29 := hb2.ext hE
            simp only [Reg.sel, h48]
            clear hT hfg hfa hB hE hO5 B5 gx hb2 hc7 hcq
            generalize w9 = wA at *
            have hb2 := hb29
            have gx := g9
            gi_wp2
            refine Flow.wpIn_region_flow Plain.wide (by kernel_rfl) (0) [(14, fun b => b = g2)] [(8, fun W => Blk W g2 191 (cur)), (14, fun W => Blk W g2 191 (cur)), (10, fun W => Blk W g7 191 ((enC x).toArray)), (15, fun W => Chg (fun b => b = g2) wA W)] (by kernel_rfl) (by kernel_rfl) (Nat.zero_le _) (Flow.nz_cons (fun _ _ => Nat.zero_le _) Flow.nz_nil) (Flow.facts_cons (hb2.drew) (Flow.kept_blk id) (Flow.fz_cons (Flow.no_follow (by kernel_rfl)) Flow.fz_nil) (Flow.facts_cons (hb2.drew) (Flow.kept_blk id) (Flow.fz_cons (Flow.no_follow (by kernel_rfl)) Flow.fz_nil) (Flow.facts_cons (gx.drew) (Flow.kept_blk id) (Flow.fz_cons (Flow.no_follow (by kernel_rfl)) Flow.fz_nil) (Flow.facts_cons ((Chg.refl _ wA).drew) (fun _ _ c h => h.trans (c.mono (fun _ h => h.elim))) (Flow.fz_cons (fun _ => fun _ _ c h => h.trans c) Flow.fz_nil) Flow.facts_nil)))) ?_
            refine Flow.pass_old (X := .slice (some ⟨g2, 0, none⟩) m c2) 4 (Flow.met_none rfl) (.inl rfl) (by kernel_rfl) (by kernel_rfl) rfl ?_
            refine Flow.pass_old (X := .int .i64 (m : Int)) 8 (Flow.met_none rfl) (.inl rfl) (by kernel_rfl) (by kernel_rfl) rfl ?_
            refine Flow.pass_val (.int .i64 (q : Int)) (Flow.met_none rfl) (fun a W hH => ?_) ?_
            · have e0 := Flow.see_new 50 1 hH.sees (by kernel_rfl) (by kernel_rfl) rfl rfl
              go_simp; first | done | rfl | (rw [hq1]; done) | omega | (exact IntWalk.i64_in _ (by omega))
            refine Flow.pass_old (X := .slice (some ⟨g2, 0, none⟩) m c2) 4 (Flow.met_none rfl) (.inl rfl) (by kernel_rfl) (by kernel_rfl) rfl ?_
            refine Flow.pass_old (X := .int .i64 (m : Int)) 8 (Flow.met_none rfl) (.inl rfl) (by kernel_rfl) (by kernel_rfl) rfl ?_
            refine Flow.pass_val (.int .i64 (q : Int)) (Flow.met_none rfl) (fun a W hH => ?_) ?_
            · have e0 := Flow.see_new 53 4 hH.sees (by kernel_rfl) (by kernel_rfl) rfl rfl
              go_simp; first | done | rfl | (rw [hq1]; done) | omega | (exact IntWalk.i64_in _ (by omega))
            refine Flow.pass_val (.pointer (some ⟨g2, q * 2, none⟩)) (Flow.met_none rfl) (fun a W hH => ?_) ?_
            · have e0 := Flow.see_new 52 3 hH.sees (by kernel_rfl) (by kernel_rfl) rfl rfl
              have e1 := Flow.see_new 54 5 hH.sees (by kernel_rfl) (by kernel_rfl) rfl rfl
              go_simp; first | done | rfl | (intro h; exact absurd h (by omega))
            refine Flow.pass_val (.pointer (some ⟨g2, q * 2 + 1, none⟩)) (Flow.met_none rfl) (fun a W hH => ?_) ?_
            · have e0 := Flow.see_new 55 6 hH.sees (by kernel_rfl) (by kernel_rfl) rfl rfl
              go_simp; first | done | rfl
            refine Flow.pass_val (.int .u64 (p.2 : Int)) (Flow.met_none rfl) (fun a W hH => ?_) ?_
            · have e0 := Flow.see_new 56 7 hH.sees (by kernel_rfl) (by kernel_rfl) rfl rfl
              have fa0 : (fun W => Blk W g2 191 (cur)) W := hH.fact _ (List.mem_of_getElem? (i := 0) rfl) rfl
              have cc : World.cell? W ⟨g2, q * 2 + 1, none⟩ = some (.int .u64 (p.2 : Int)) := (fa0.cell _).trans hcur; go_simp; first | done | rfl
            refine Flow.pass_val (.pointer (some ⟨g7, 1, none⟩)) (Flow.met_none rfl) (fun a W hH => ?_) ?_
            · have e0 := Flow.see_old 7 hH.sees (by kernel_rfl) (by kernel_rfl) rfl
              go_simp; first | done | rfl
            refine Flow.pass_val (.int .u64 (x.2 : Int)) (Flow.met_none rfl) (fun a W hH => ?_) ?_
            · have e0 := Flow.see_new 58 9 hH.sees (by kernel_rfl) (by kernel_rfl) rfl rfl
              have fa2 : (fun W => Blk W g7 191 ((enC x).toArray)) W := hH.fact _ (List.mem_of_getElem? (i := 2) rfl) rfl
              have cc : World.cell? W ⟨g7, 1, none⟩ = some (.int .u64 (x.2 : Int)) := (fa2.cell 1).trans rfl; go_simp; first | done | rfl
            refine Flow.pass_val (.int .u64 ((max p.2 x.2 : Nat) : Int)) (Flow.met_none rfl) (fun a W hH => ?_) ?_
            · have e0 := Flow.see_new 57 8 hH.sees (by kernel_rfl) (by kernel_rfl) rfl rfl
              have e1 := Flow.see_new 59 10 hH.sees (by kernel_rfl) (by kernel_rfl) rfl rfl
              go_simp; first | done | rfl | exact hmx | omega | (push_cast; rfl)
            refine Flow.pass_val (.pointer (some ⟨g2, q * 2, none⟩)) (Flow.met_none rfl) (fun a W hH => ?_) ?_
            · have e0 := Flow.see_new 49 0 hH.sees (by kernel_rfl) (by kernel_rfl) rfl rfl
              have e1 := Flow.see_new 51 2 hH.sees (by kernel_rfl) (by kernel_rfl) rfl rfl
              go_simp; first | done | rfl | (intro h; exact absurd h (by omega))
            refine Flow.pass_val (.pointer (some ⟨g2, q * 2 + 1, none⟩)) (Flow.met_none rfl) (fun a W hH => ?_) ?_
            · have e0 := Flow.see_new 61 12 hH.sees (by kernel_rfl) (by kernel_rfl) rfl rfl
              go_simp; first | done | rfl
            refine Flow.pass_gen (fun _ W => Blk W g2 191 (cur.setIfInBounds (q * 2 + 1) (.int .u64 ((max p.2 x.2 : Nat) : Int)))) (Flow.kept_of (fun _ _ _ c h => h.chg c id) (Flow.kz_cons (Flow.no_follow (by kernel_rfl)) Flow.kz_nil)) (Flow.met_none rfl) (fun a W hH => ?_) ?_
            · have e0 := Flow.see_new 62 13 hH.sees (by kernel_rfl) (by kernel_rfl) rfl rfl
              have e1 := Flow.see_new 60 11 hH.sees (by kernel_rfl) (by kernel_rfl) rfl rfl
              have fa1 : (fun W => Blk W g2 191 (cur)) W := hH.fact _ (List.mem_of_getElem? (i := 1) rfl) rfl
              refine wp_skip (reg_storeIntG rfl (by kernel_rfl) fa1 e0 e1 hqs) ?_
              exact ⟨_, rfl, Chg.grown (s_grown _ _ _ _) (by rintro j h; cases h; rfl), fa1.set_ _ _⟩
            refine Flow.pass_end [none, none, none, none, none, none, none, none, none, none, none, none, none, none, none, none, none, none, none, none, none, none, none, none, none, none, none, none, none, none, none, none, none, none, none, none, none, none, none, none, none, none, none, none, none, none, none, none, none, some 49, some 50, some 51, some 52, some 53, some 54, some 55, some 56, some 57, some 58, some 59, some 60, some 61, some 62, none, none, none, none, none, none] (by kernel_rfl) ?_
            intro f gg w9 hB hfa hT hfg
            have F3 : (fun W => Chg (fun b => b = g2) wA W) w9 := hfa _ (List.mem_of_getElem? (i := 3) rfl) (Nat.le_refl _)
            refine ⟨rfl, ?_⟩
            have hq9 : Blk w9 g2 191 (cur.setIfInBounds (q * 2 + 1) (.int .u64 ((max p.2 x.2 : Nat) : Int))) := hT 14 _ (by kernel_rfl) rfl
            have hO12 : w9.ownsRow W3.heap.size 191 2 (.slice (some ⟨g2, 0, none⟩) m c2) m (ecells (mergeE (srt.take (k + 1)))) := by
              rw [HX.out]
              rw [HQ.out] at hq9
              exact own_setLast _ hO9 hb2 hq9
            have B12 : Below W3.heap.size W3 w9 := B9.trans (F3.below (fun b hb => by have hb : b = g2 := hb; omega) B9.size)
            have hlen3 : m = (mergeE (srt.take (k + 1))).length := by rw [HX.out, HM.out]; simp
            simp only [Reg.sel]
            clear hT hfg hfa hB F3 hq9 hO9 B9 g9 hb29 hb2 gx
            gi_wp2
            go_roundw
            case rel => exact ⟨k + 1, by omega, by simp, m, _, c2, hlen3, rfl, hO12, B12⟩
            case measure => simp [intOf]; omega
          · have hp1 : IntKind.u64.wrap ((p.2 : Int) + 1) = ((p.2 + 1 : Nat) : Int) := by rw [IntWalk.u64_in _ (by omega)]; omega
            obtain ⟨b, hb⟩ : ∃ b, b = decide (x.1 ≤ p.2 + 1) := ⟨_, rfl⟩
            have hleq : decide ((x.1 : Int) ≤ ((p.2 + 1 : Nat) : Int)) = b := by rw [hb]; exact decide_eq_decide.2 (by omega)
            have HBb := Lib.hid hb
            clear hb
            refine Flow.wpIn_region_flow Plain.wide (by kernel_rfl) (w1.heap.size) [] [] (by kernel_rfl) (by kernel_rfl) (Nat.le_refl _) (fun _ h => by cases h) Flow.facts_nil ?_
            refine Flow.pass_old (X := .int .i64 (m : Int)) 8 (Flow.met_none rfl) (.inl rfl) (by kernel_rfl) (by kernel_rfl) rfl ?_
            refine Flow.pass_val (.bool true) (Flow.met_none rfl) (fun a W hH => ?_) ?_
            · have e0 := Flow.see_new 26 0 hH.sees (by kernel_rfl) (by kernel_rfl) rfl rfl
              go_simp; first | done | rfl | omega
            refine Flow.pass_copy 27 1 (Flow.met_none rfl) (.inl rfl) (by kernel_rfl) (by kernel_rfl) rfl rfl (fun _ _ => Flow.kept_eqs _ _) ?_
            refine Flow.pass_old (X := .slice (some ⟨g2, 0, none⟩) m c2) 4 (Flow.met_some 2 true 28 rfl rfl (by kernel_rfl) (by kernel_rfl) rfl rfl) (.inl rfl) (by kernel_rfl) (by kernel_rfl) rfl ?_
            refine Flow.pass_old (X := .int .i64 (m : Int)) 8 (Flow.met_some 2 true 28 rfl rfl (by kernel_rfl) (by kernel_rfl) rfl rfl) (.inl rfl) (by kernel_rfl) (by kernel_rfl) rfl ?_
            refine Flow.pass_val (.int .i64 (q : Int)) (Flow.met_some 2 true 28 rfl rfl (by kernel_rfl) (by kernel_rfl) rfl rfl) (fun a W hH => ?_) ?_
            · have e0 := Flow.see_new 30 4 hH.sees (by kernel_rfl) (by kernel_rfl) rfl rfl
              go_simp; first | done | rfl | (rw [hq1]; done) | omega | (exact IntWalk.i64_in _ (by omega))
            refine Flow.pass_val (.pointer (some ⟨g2, q * 2, none⟩)) (Flow.met_some 2 true 28 rfl rfl (by kernel_rfl) (by kernel_rfl) rfl rfl) (fun a W hH => ?_) ?_
            · have e0 := Flow.see_new 29 3 hH.sees (by kernel_rfl) (by kernel_rfl) rfl rfl
              have e1 := Flow.see_new 31 5 hH.sees (by kernel_rfl) (by kernel_rfl) rfl rfl
              go_simp; first | done | rfl | (intro h; exact absurd h (by omega))
            refine Flow.pass_val (.pointer (some ⟨g2, q * 2 + 1, none⟩)) (Flow.met_some 2 true 28 rfl rfl (by kernel_rfl) (by kernel_rfl) rfl rfl) (fun a W hH => ?_) ?_
            · have e0 := Flow.see_new 32 6 hH.sees (by kernel_rfl) (by kernel_rfl) rfl rfl
              go_simp; first | done | rfl
            refine Flow.pass_val (.int .u64 (p.2 : Int)) (Flow.met_some 2 true 28 rfl rfl (by kernel_rfl) (by kernel_rfl) rfl rfl) (fun a W hH => ?_) ?_
            · have e0 := Flow.see_new 33 7 hH.sees (by kernel_rfl) (by kernel_rfl) rfl rfl
              have cc : World.cell? W ⟨g2, q * 2 + 1, none⟩ = some (.int .u64 (p.2 : Int)) := (hH.below.cell (p := ⟨g2, q * 2 + 1, none⟩) hg2l).trans hcq; go_simp; first | done | rfl
            refine Flow.pass_val (.bool false) (Flow.met_some 2 true 28 rfl rfl (by kernel_rfl) (by kernel_rfl) rfl rfl) (fun a W hH => ?_) ?_
            · have e0 := Flow.see_new 34 8 hH.sees (by kernel_rfl) (by kernel_rfl) rfl rfl
              go_simp; first | done | rfl | (simp [htop]; done) | (simp; done) | (simp; omega) | omega
            refine Flow.pass_copy 35 9 (Flow.met_some 2 true 28 rfl rfl (by kernel_rfl) (by kernel_rfl) rfl rfl) (.inl rfl) (by kernel_rfl) (by kernel_rfl) rfl rfl (fun _ _ => Flow.kept_eqs _ _) ?_
            refine Flow.pass_val (.pointer (some ⟨g7, 0, none⟩)) (Flow.met_some 10 false 36 rfl rfl (by kernel_rfl) (by kernel_rfl) rfl rfl) (fun a W hH => ?_) ?_
            · have e0 := Flow.see_old 7 hH.sees (by kernel_rfl) (by kernel_rfl) rfl
              go_simp; first | done | rfl
            refine Flow.pass_val (.int .u64 (x.1 : Int)) (Flow.met_some 10 false 36 rfl rfl (by kernel_rfl) (by kernel_rfl) rfl rfl) (fun a W hH => ?_) ?_
            · have e0 := Flow.see_new 37 11 hH.sees (by kernel_rfl) (by kernel_rfl) rfl rfl
              have cc : World.cell? W ⟨g7, 0, none⟩ = some (.int .u64 (x.1 : Int)) := (hH.below.cell (p := ⟨g7, 0, none⟩) hg7l).trans hc7; go_simp; first | done | rfl
            refine Flow.pass_old (X := .slice (some ⟨g2, 0, none⟩) m c2) 4 (Flow.met_some 10 false 36 rfl rfl (by kernel_rfl) (by kernel_rfl) rfl rfl) (.inl rfl) (by kernel_rfl) (by kernel_rfl) rfl ?_
            refine Flow.pass_old (X := .int .i64 (m : Int)) 8 (Flow.met_some 10 false 36 rfl rfl (by kernel_rfl) (by kernel_rfl) rfl rfl) (.inl rfl) (by kernel_rfl) (by kernel_rfl) rfl ?_
            refine Flow.pass_val (.int .i64 (q : Int)) (Flow.met_some 10 false 36 rfl rfl (by kernel_rfl) (by kernel_rfl) rfl rfl) (fun a W hH => ?_) ?_
            · have e0 := Flow.see_new 40 14 hH.sees (by kernel_rfl) (by kernel_rfl) rfl rfl
              go_simp; first | done | rfl | (rw [hq1]; done) | omega | (exact IntWalk.i64_in _ (by omega))
            refine Flow.pass_val (.pointer (some ⟨g2, q * 2, none⟩)) (Flow.met_some 10 false 36 rfl rfl (by kernel_rfl) (by kernel_rfl) rfl rfl) (fun a W hH => ?_) ?_
            · have e0 := Flow.see_new 39 13 hH.sees (by kernel_rfl) (by kernel_rfl) rfl rfl
              have e1 := Flow.see_new 41 15 hH.sees (by kernel_rfl) (by kernel_rfl) rfl rfl
              go_simp; first | done | rfl | (intro h; exact absurd h (by omega))
            refine Flow.pass_val (.pointer (some ⟨g2, q * 2 + 1, none⟩)) (Flow.met_some 10 false 36 rfl rfl (by kernel_rfl) (by kernel_rfl) rfl rfl) (fun a W hH => ?_) ?_
            · have e0 := Flow.see_new 42 16 hH.sees (by kernel_rfl) (by kernel_rfl) rfl rfl
              go_simp; first | done | rfl
            refine Flow.pass_val (.int .u64 (p.2 : Int)) (Flow.met_some 10 false 36 rfl rfl (by kernel_rfl) (by kernel_rfl) rfl rfl) (fun a W hH => ?_) ?_
            · have e0 := Flow.see_new 43 17 hH.sees (by kernel_rfl) (by kernel_rfl) rfl rfl
              have cc : World.cell? W ⟨g2, q * 2 + 1, none⟩ = some (.int .u64 (p.2 : Int)) := (hH.below.cell (p := ⟨g2, q * 2 + 1, none⟩) hg2l).trans hcq; go_simp; first | done | rfl
            refine Flow.pass_val (.int .u64 ((p.2 + 1 : Nat) : Int)) (Flow.met_some 10 false 36 rfl rfl (by kernel_rfl) (by kernel_rfl) rfl rfl) (fun a W hH => ?_) ?_
            · have e0 := Flow.see_new 44 18 hH.sees (by kernel_rfl) (by kernel_rfl) rfl rfl
              go_simp; first | done | rfl | (rw [hp1]; done)
            refine Flow.pass_val (.bool b) (Flow.met_some 10 false 36 rfl rfl (by kernel_rfl) (by kernel_rfl) rfl rfl) (fun a W hH => ?_) ?_
            · have e0 := Flow.see_new 38 12 hH.sees (by kernel_rfl) (by kernel_rfl) rfl rfl
              have e1 := Flow.see_new 45 19 hH.sees (by kernel_rfl) (by kernel_rfl) rfl rfl
              go_simp; first | done | rfl | exact hleq | (simp [hleq]; done)
            refine Flow.pass_val (.bool b) (Flow.met_some 2 true 28 rfl rfl (by kernel_rfl) (by kernel_rfl) rfl rfl) (fun a W hH => ?_) ?_
            · have e0 := Flow.see_new 36 10 hH.sees (by kernel_rfl) (by kernel_rfl) rfl rfl
              have e1 := Flow.see_new 46 20 hH.sees (by kernel_rfl) (by kernel_rfl) rfl rfl
              go_simp; first | done | rfl
            refine Flow.pass_val (.bool b) (Flow.met_none rfl) (fun a W hH => ?_) ?_
            · have e0 := Flow.see_new 28 2 hH.sees (by kernel_rfl) (by kernel_rfl) rfl rfl
              have e1 := Flow.see_new 47 21 hH.sees (by kernel_rfl) (by kernel_rfl) rfl rfl
              go_simp; first | done | rfl
            refine Flow.pass_end [none, none, none, none, none, none, none, none, none, none, none, none, none, none, none, none, none, none, none, none, none, none, none, none, none, none, some 26, some 27, some 28, some 29, some 30, some 31, some 32, some 33, some 34, some 35, some 36, some 37, some 38, some 39, some 40, some 41, some 42, some 43, some 44, some 45, some 46, some 47, some 48, none, none, none, none, none, none, none, none, none, none, none, none, none, none, none, none, none, none, none, none] (by kernel_rfl) ?_
            intro f gg w9 hB hfa hT hfg
            have h48 : f 48 = _ := (hfg 48 22 (by kernel_rfl)).trans (hT 22 _ (by kernel_rfl) rfl)
            cases b with
            | true =>
              have HX : Hid (mergeE (srt.take (k + 1)) = o ++ [(p.1, max p.2 x.2)]) := Lib.hid (by rw [HST.out, mStep_snoc, if_pos (.inr (of_decide_eq_true HBb.out.symm))])
              refine ⟨rfl, ?_⟩
              have hE : Ext w1 w9 := ⟨hB.os, hB.tape, hB.output, hB.size, fun k hk => hB.block k hk⟩
              have hO9 := own_chg hO5 (Chg.of_ext hE) (fun _ _ => id)
              have B9 := B5.trans (hE.mono B5.size)
              have g9 := gx.ext hE
              have hb29 := hb2.ext hE
              simp only [Reg.sel, h48]
              clear hT hfg hfa hB hE hO5 B5 gx hb2 hc7 hcq
              generalize w9 = wA at *
              have hb2 := hb29
              have gx := g9
              gi_wp2
              refine Flow.wpIn_region_flow Plain.wide (by kernel_rfl) (0) [(14, fun b => b = g2)] [(8, fun W => Blk W g2 191 (cur)), (14, fun W => Blk W g2 191 (cur)), (10, fun W => Blk W g7 191 ((enC x).toArray)), (15, fun W => Chg (fun b => b = g2) wA W)] (by kernel_rfl) (by kernel_rfl) (Nat.zero_le _) (Flow.nz_cons (fun _ _ => Nat.zero_le _) Flow.nz_nil) (Flow.facts_cons (hb2.drew) (Flow.kept_blk id) (Flow.fz_cons (Flow.no_follow (by kernel_rfl)) Flow.fz_nil) (Flow.facts_cons (hb2.drew) (Flow.kept_blk id) (Flow.fz_cons (Flow.no_follow (by kernel_rfl)) Flow.fz_nil) (Flow.facts_cons (gx.drew) (Flow.kept_blk id) (Flow.fz_cons (Flow.no_follow (by kernel_rfl)) Flow.fz_nil) (Flow.facts_cons ((Chg.refl _ wA).drew) (fun _ _ c h => h.trans (c.mono (fun _ h => h.elim))) (Flow.fz_cons (fun _ => fun _ _ c h => h.trans c) Flow.fz_nil) Flow.facts_nil)))) ?_
              refine Flow.pass_old (X := .slice (some ⟨g2, 0, none⟩) m c2) 4 (Flow.met_none rfl) (.inl rfl) (by kernel_rfl) (by kernel_rfl) rfl ?_
              refine Flow.pass_old (X := .int .i64 (m : Int)) 8 (Flow.met_none rfl) (.inl rfl) (by kernel_rfl) (by kernel_rfl) rfl ?_
              refine Flow.pass_val (.int .i64 (q : Int)) (Flow.met_none rfl) (fun a W hH => ?_) ?_
              · have e0 := Flow.see_new 50 1 hH.sees (by kernel_rfl) (by kernel_rfl) rfl rfl
                go_simp; first | done | rfl | (rw [hq1]; done) | omega | (exact IntWalk.i64_in _ (by omega))
              refine Flow.pass_old (X := .slice (some ⟨g2, 0, none⟩) m c2) 4 (Flow.met_none rfl) (.inl rfl) (by kernel_rfl) (by kernel_rfl) rfl ?_
              refine Flow.pass_old (X := .int .i64 (m : Int)) 8 (Flow.met_none rfl) (.inl rfl) (by kernel_rfl) (by kernel_rfl) rfl ?_
              refine Flow.pass_val (.int .i64 (q : Int)) (Flow.met_none rfl) (fun a W hH => ?_) ?_
              · have e0 := Flow.see_new 53 4 hH.sees (by kernel_rfl) (by kernel_rfl) rfl rfl
                go_simp; first | done | rfl | (rw [hq1]; done) | omega | (exact IntWalk.i64_in _ (by omega))
              refine Flow.pass_val (.pointer (some ⟨g2, q * 2, none⟩)) (Flow.met_none rfl) (fun a W hH => ?_) ?_
              · have e0 := Flow.see_new 52 3 hH.sees (by kernel_rfl) (by kernel_rfl) rfl rfl
                have e1 := Flow.see_new 54 5 hH.sees (by kernel_rfl) (by kernel_rfl) rfl rfl
                go_simp; first | done | rfl | (intro h; exact absurd h (by omega))
              refine Flow.pass_val (.pointer (some ⟨g2, q * 2 + 1, none⟩)) (Flow.met_none rfl) (fun a W hH => ?_) ?_
              · have e0 := Flow.see_new 55 6 hH.sees (by kernel_rfl) (by kernel_rfl) rfl rfl
                go_simp; first | done | rfl
              refine Flow.pass_val (.int .u64 (p.2 : Int)) (Flow.met_none rfl) (fun a W hH => ?_) ?_
              · have e0 := Flow.see_new 56 7 hH.sees (by kernel_rfl) (by kernel_rfl) rfl rfl
                have fa0 : (fun W => Blk W g2 191 (cur)) W := hH.fact _ (List.mem_of_getElem? (i := 0) rfl) rfl
                have cc : World.cell? W ⟨g2, q * 2 + 1, none⟩ = some (.int .u64 (p.2 : Int)) := (fa0.cell _).trans hcur; go_simp; first | done | rfl
              refine Flow.pass_val (.pointer (some ⟨g7, 1, none⟩)) (Flow.met_none rfl) (fun a W hH => ?_) ?_
              · have e0 := Flow.see_old 7 hH.sees (by kernel_rfl) (by kernel_rfl) rfl
                go_simp; first | done | rfl
              refine Flow.pass_val (.int .u64 (x.2 : Int)) (Flow.met_none rfl) (fun a W hH => ?_) ?_
              · have e0 := Flow.see_new 58 9 hH.sees (by kernel_rfl) (by kernel_rfl) rfl rfl
                have fa2 : (fun W => Blk W g7 191 ((enC x).toArray)) W := hH.fact _ (List.mem_of_getElem? (i := 2) rfl) rfl
                have cc : World.cell? W ⟨g7, 1, none⟩ = some (.int .u64 (x.2 : Int)) := (fa2.cell 1).trans rfl; go_simp; first | done | rfl
              refine Flow.pass_val (.int .u64 ((max p.2 x.2 : Nat) : Int)) (Flow.met_none rfl) (fun a W hH => ?_) ?_
              · have e0 := Flow.see_new 57 8 hH.sees (by kernel_rfl) (by kernel_rfl) rfl rfl
                have e1 := Flow.see_new 59 10 hH.sees (by kernel_rfl) (by kernel_rfl) rfl rfl
                go_simp; first | done | rfl | exact hmx | omega | (push_cast; rfl)
              refine Flow.pass_val (.pointer (some ⟨g2, q * 2, none⟩)) (Flow.met_none rfl) (fun a W hH => ?_) ?_
              · have e0 := Flow.see_new 49 0 hH.sees (by kernel_rfl) (by kernel_rfl) rfl rfl
                have e1 := Flow.see_new 51 2 hH.sees (by kernel_rfl) (by kernel_rfl) rfl rfl
                go_simp; first | done | rfl | (intro h; exact absurd h (by omega))
              refine Flow.pass_val (.pointer (some ⟨g2, q * 2 + 1, none⟩)) (Flow.met_none rfl) (fun a W hH => ?_) ?_
              · have e0 := Flow.see_new 61 12 hH.sees (by kernel_rfl) (by kernel_rfl) rfl rfl
                go_simp; first | done | rfl
              refine Flow.pass_gen (fun _ W => Blk W g2 191 (cur.setIfInBounds (q * 2 + 1) (.int .u64 ((max p.2 x.2 : Nat) : Int)))) (Flow.kept_of (fun _ _ _ c h => h.chg c id) (Flow.kz_cons (Flow.no_follow (by kernel_rfl)) Flow.kz_nil)) (Flow.met_none rfl) (fun a W hH => ?_) ?_
              · have e0 := Flow.see_new 62 13 hH.sees (by kernel_rfl) (by kernel_rfl) rfl rfl
                have e1 := Flow.see_new 60 11 hH.sees (by kernel_rfl) (by kernel_rfl) rfl rfl
                have fa1 : (fun W => Blk W g2 191 (cur)) W := hH.fact _ (List.mem_of_getElem? (i := 1) rfl) rfl
                refine wp_skip (reg_storeIntG rfl (by kernel_rfl) fa1 e0 e1 hqs) ?_
                exact ⟨_, rfl, Chg.grown (s_grown _ _ _ _) (by rintro j h; cases h; rfl), fa1.set_ _ _⟩
              refine Flow.pass_end [none, none, none, none, none, none, none, none, none, none, none, none, none, none, none, none, none, none, none, none, none, none, none, none, none, none, none, none, none, none, none, none, none, none, none, none, none, none, none, none, none, none, none, none, none, none, none, none, none, some 49, some 50, some 51, some 52, some 53, some 54, some 55, some 56, some 57, some 58, some 59, some 60, some 61, some 62, none, none, none, none, none, none] (by kernel_rfl) ?_
              intro f gg w9 hB hfa hT hfg
              have F3 : (fun W => Chg (fun b => b = g2) wA W) w9 := hfa _ (List.mem_of_getElem? (i := 3) rfl) (Nat.le_refl _)
              refine ⟨rfl, ?_⟩
              have hq9 : Blk w9 g2 191 (cur.setIfInBounds (q * 2 + 1) (.int .u64 ((max p.2 x.2 : Nat) : Int))) := hT 14 _ (by kernel_rfl) rfl
              have hO12 : w9.ownsRow W3.heap.size 191 2 (.slice (some ⟨g2, 0, none⟩) m c2) m (ecells (mergeE (srt.take (k + 1)))) := by
                rw [HX.out]
                rw [HQ.out] at hq9
                exact own_setLast _ hO9 hb2 hq9
              have B12 : Below W3.heap.size W3 w9 := B9.trans (F3.below (fun b hb => by have hb : b = g2 := hb; omega) B9.size)
              have hlen3 : m = (mergeE (srt.take (k + 1))).length := by rw [HX.out, HM.out]; simp
              simp only [Reg.sel]
              clear hT hfg hfa hB F3 hq9 hO9 B9 g9 hb29 hb2 gx
              gi_wp2
              go_roundw
              case rel => exact ⟨k + 1, by omega, by simp, m, _, c2, hlen3, rfl, hO12, B12⟩
              case measure => simp [intOf]; omega
            | false =>
              have HX : Hid (mergeE (srt.take (k + 1)) = (o ++ [p]) ++ [x]) := Lib.hid (by rw [HST.out, mStep_snoc, if_neg (fun h => h.elim htop (of_decide_eq_false HBb.out.symm))])
              refine ⟨rfl, ?_⟩
              have hE : Ext w1 w9 := ⟨hB.os, hB.tape, hB.output, hB.size, fun k hk => hB.block k hk⟩
              have hO9 := own_chg hO5 (Chg.of_ext hE) (fun _ _ => id)
              have B9 := B5.trans (hE.mono B5.size)
              have g9 := gx.ext hE
              have hb29 := hb2.ext hE
              simp only [Reg.sel, h48]
              clear hT hfg hfa hB hE hO5 B5 gx hb2 hc7 hcq
              obtain ⟨i, hi2, hi3, hi4, hi5⟩ := elEnds.info
              have hO10 := own_chg hO9 (Chg.of_ext ((Ext.refl w9).alloc (.cells #[.int .u64 (x.1 : Int), .int .u64 (x.2 : Int)] 191))) (fun _ _ => id)
              have hN1 := Blk.new w9 191 #[.int .u64 (x.1 : Int), .int .u64 (x.2 : Int)]
              have hB10 : Below W3.heap.size W3 (w9.alloc (.cells #[.int .u64 (x.1 : Int), .int .u64 (x.2 : Int)] 191)) := B9.alloc B9.size _
              have hbs := B9.size
              have cx0 : w9.cell? ⟨g7, 0, none⟩ = some (.int .u64 (x.1 : Int)) := (g9.cell 0).trans rfl
              have cx1 : w9.cell? ⟨g7, 1, none⟩ = some (.int .u64 (x.2 : Int)) := (g9.cell 1).trans rfl
              gi_wp2_with ((with_reducible refine sIn_append 147 ?_); refine wpListIn_append_own _ rfl _ _ _ rfl W3.heap.size 191 i (.agg #[.int .u64 0, .int .u64 0]) 2 16 elEnds.under hi2 hi3 hi4 hi5 rfl (by omega) (.slice (some ⟨g2, 0, none⟩) m c2) m (ecells (o ++ [p])) rfl hO10 ⟨w9.heap.size, 0, none⟩ 1 1 [.int .u64 (x.1 : Int), .int .u64 (x.2 : Int)] rfl rfl (fun j u hj => by match j, hj with | 0, hj => exact (hN1.cell 0).trans hj | 1, hj => exact (hN1.cell 1).trans hj | _ + 2, hj => cases hj) (fun u hu => by simp only [List.mem_cons, List.not_mem_nil, or_false] at hu; rcases hu with rfl | rfl <;> rfl) (by simp only [maxLen]; omega) (by omega) (by simp; omega) ?_; intro v' w3 hO3 hg3 hnil; obtain ⟨A', c', rfl⟩ := own_isSliceG hO3)
              have hlen3 : m + 1 = (mergeE (srt.take (k + 1))).length := by rw [HX.out, HM.out]; simp
              have hO11 : w3.ownsRow W3.heap.size 191 2 (.slice A' (m + 1) c') (m + 1) (ecells (mergeE (srt.take (k + 1)))) := by rw [HX.out, ecells_append]; exact hO3
              have hB11 : Below W3.heap.size W3 w3 := hB10.grown hg3 hB10.size (fun r e => (hO10.lt r e).1)
              clear hO3 hO10 hN1 hO9 g9
              go_roundw
              case rel => exact ⟨k + 1, by omega, by simp, m + 1, A', c', hlen3, rfl, hO11, hB11⟩
              case measure => simp [intOf]; omega
      · obtain rfl : k = N := by omega
        have hfin : srt.take k = srt := List.take_of_length_le (by rw [HSL.out]; exact Nat.le_refl _)
        rw [hfin] at HM hO4
        have hKr : wr.heap[D]? = some (.deferred (some [])) := (hB4.block D (Array.getElem?_eq_some_iff.1 hK3).1).trans hK3
        gi_wp2
        refine ⟨by simp, .inl ⟨_, _, rfl, run_takeDeferred hKr, ?_⟩⟩
        have hg4 := grownBy_putObj' wr D (.deferred none)
        have hO5 := own_keptS hO4 hg4 (fun r e => by cases e; exact ⟨_, hKr, rfl⟩)
        have B5 := B3.trans (hB4.mono B3.size)
        have B6 : Below w.heap.size w (wr.putObj D (.deferred none)) := grown_below B5 hg4 B5.size (by omega)
        refine ⟨_, results_tmp rfl _ _ _, srt, A2, c2, HS.out, ?_, ?_, B6⟩
        · rw [← HM.out]; rfl
        · rw [← HM.out]; exact own_baseG hO5 B3.size
  case stop =>
    rintro D c pre W _ _ h _
    exact h.elim
end Go.Proofs.YtpellkblaeeopaaGreatDoor
/-
  Walks: span.spans, span.Merge.
-/
namespace Go.Proofs.YtpellkblaeeopaaGreatDoor
open Go.RowKit

def toSp (e : En) : Sp := ⟨e.1, e.2 - e.1 + 1⟩
theorem elSpan : Elem Tryz.prog 34 25 (.agg #[.int .u64 0, .int .u64 0]) 2 16 := Elem.of (by kernel_rfl) (by kernel_rfl) rfl (by omega)
theorem scells_append (a b : List Sp) : scells (a ++ b) = scells a ++ scells b := by simp [scells]
/-- a row of spans in memory of the call's own -/
def SpRet (w : World) (l : List Sp) (e : Ending) (w' : World) : Prop :=
  ∃ A c, e = .returned (.slice A l.length c) ∧ w'.ownsRow w.heap.size 25 2 (.slice A l.length c) l.length (scells l) ∧ Below w.heap.size w w'
def EnOk (e : En) : Prop := e.1 ≤ e.2 ∧ e.2 < 9223372036854775808

set_option maxRecDepth 100000 in
set_option maxHeartbeats 2000000 in
theorem spans_any (A : Option Addr) (n c : Nat) (l : List En) (hl : ∀ e ∈ l, EnOk e) (hn1 : n ≤ 1000000) (w : World) (hR : Rd w w.heap.size 2 A n (ecells l)) :
    Calls Tryz.prog 55 #[.slice A n c] w (SpRet w (l.map toSp)) := by
  have hln : l.length = n := by have := hR.len; rw [ecells_length] at this; omega
  have HLN := Lib.hid hln
  have HL := Lib.hid hl
  clear hln hl
  go_enter Tryz.func55, Tryz.ntmps55
  go_wp2
  go_loopw [3, 8] (fun o i wr => ∃ k : Nat, k ≤ n ∧ i = .int .i64 (k : Int) ∧ ∃ A2 c2, o = .slice A2 k c2 ∧ wr.ownsRow w.heap.size 25 2 (.slice A2 k c2) k (scells ((l.take k).map toSp)) ∧ Below w.heap.size w wr) (fun _ i _ => n - (intOf i).toNat)
  case atStart => exact ⟨0, Nat.zero_le _, rfl, none, 0, rfl, World.ownsRow_nil _ _ _ _, Below.refl _ _⟩
  case round =>
    obtain ⟨k, hk, rfl, A2, c2, rfl, hO, hB⟩ := hrel
    by_cases hlt : k < n
    · obtain ⟨x, hx⟩ : ∃ x, l[k]? = some x := ⟨_, List.getElem?_eq_getElem (by rw [HLN.out]; exact hlt)⟩
      obtain ⟨b1, o1, rfl, hb1, hr1⟩ := (hR.below hB).range (by omega)
      have hks : k < l.length := by rw [HLN.out]; exact hlt
      have hx' : l[k] = x := by rw [List.getElem?_eq_getElem hks] at hx; exact Option.some.inj hx
      obtain ⟨hx1, hx2⟩ := HL.out x (List.mem_of_getElem? hx)
      have e0 : (ecells l)[k * 2]? = some (.int .u64 (x.1 : Int)) := by rw [ecells_get _ _ (by omega), show k * 2 / 2 = k by omega, show k * 2 % 2 = 0 by omega]; simp [hks, hx', enC]
      have e1 : (ecells l)[k * 2 + 1]? = some (.int .u64 (x.2 : Int)) := by rw [ecells_get _ _ (by omega), show (k * 2 + 1) / 2 = k by omega, show (k * 2 + 1) % 2 = 1 by omega]; simp [hks, hx', enC]
      have r0 : wr.cell? ⟨b1, o1 + k * 2, none⟩ = some (.int .u64 (x.1 : Int)) := hr1 _ _ e0
      have r1 : wr.cell? ⟨b1, o1 + k * 2 + 1, none⟩ = some (.int .u64 (x.2 : Int)) := hr1 _ _ e1
      have hst : (l.take (k + 1)).map toSp = (l.take k).map toSp ++ [toSp x] := by rw [List.take_add_one, hx]; simp
      obtain ⟨z, hz⟩ : ∃ z, z = x.2 - x.1 + 1 := ⟨_, rfl⟩
      have hz1 : IntKind.u64.wrap (IntKind.u64.wrap ((x.2 : Int) - (x.1 : Int)) + 1) = (z : Int) := by rw [IntWalk.u64_in ((x.2 : Int) - (x.1 : Int)) (by omega), IntWalk.u64_in _ (by omega)]; omega
      have hz2 : IntKind.u64.wrap ((x.2 : Int) - (x.1 : Int) + 1) = (z : Int) := by rw [IntWalk.u64_in _ (by omega)]; omega
      have hz3 : (x.2 : Int) - (x.1 : Int) + 1 = (z : Int) := by omega
      have hne : ((x.2 : Int) == 18446744073709551615) = false := by simp; omega
      have hcs : scells [toSp x] = [.int .u64 (x.1 : Int), .int .u64 (z : Int)] := by simp [scells, toSp, Sp.cells, hz]
      have HST := Lib.hid hst
      have HCS := Lib.hid hcs
      clear hx hx' e0 e1 hr1 hst hz hcs
      have hO2 := own_chg hO (Chg.of_ext (((Ext.refl wr).alloc (.cells #[.int .u64 (x.1 : Int), .int .u64 (x.2 : Int)] 191)).alloc (.cells #[.int .u64 (x.1 : Int), .int .u64 (z : Int)] 25))) (fun _ _ => id)
      have hNb := Blk.new (wr.alloc (.cells #[.int .u64 (x.1 : Int), .int .u64 (x.2 : Int)] 191)) 25 #[.int .u64 (x.1 : Int), .int .u64 (z : Int)]
      rw [World.size_alloc] at hNb
      have hNr := hNb.rd (size := 2) (n := 1) rfl
      have B2 : Below w.heap.size w ((wr.alloc (.cells #[.int .u64 (x.1 : Int), .int .u64 (x.2 : Int)] 191)).alloc (.cells #[.int .u64 (x.1 : Int), .int .u64 (z : Int)] 25)) := (hB.alloc hB.size _).alloc (by have := hB.size; simp; omega) _
      have hbs := B2.size
      clear hNb
      by_cases h0 : x.1 = 0
      · have h0' : ((x.1 : Int) == 0) = true := by simp [h0]
        clear h0
        go_wp2_with (at_builtin; refine wpList_app _ elSpan rfl _ _ rfl w.heap.size A2 k c2 _ rfl hO2 _ (some ⟨wr.heap.size + 1, 0, none⟩) 1 1 [.int .u64 (x.1 : Int), .int .u64 (z : Int)] rfl hNr (fun u hu => by simp only [List.mem_cons, List.not_mem_nil, or_false] at hu; rcases hu with rfl | rfl <;> rfl) (by omega) (by omega) hbs ?_; intro A3 c3 w3 hO3 hg3 hB3 hob)
        have hO4 : w3.ownsRow w.heap.size 25 2 (.slice A3 (k + 1) c3) (k + 1) (scells ((l.take (k + 1)).map toSp)) := by rw [HST.out, scells_append, HCS.out]; exact hO3
        have hB4 : Below w.heap.size w w3 := B2.trans hB3
        clear hO3 hO2 hNr hg3 hB3
        go_roundw
        case rel => exact ⟨k + 1, by omega, by go_num, A3, c3, rfl, hO4, hB4⟩
        case measure => simp [intOf]; omega
      · have h0' : ((x.1 : Int) == 0) = false := by simpa using h0
        clear h0
        go_wp2_with (at_builtin; refine wpList_app _ elSpan rfl _ _ rfl w.heap.size A2 k c2 _ rfl hO2 _ (some ⟨wr.heap.size + 1, 0, none⟩) 1 1 [.int .u64 (x.1 : Int), .int .u64 (z : Int)] rfl hNr (fun u hu => by simp only [List.mem_cons, List.not_mem_nil, or_false] at hu; rcases hu with rfl | rfl <;> rfl) (by omega) (by omega) hbs ?_; intro A3 c3 w3 hO3 hg3 hB3 hob)
        have hO4 : w3.ownsRow w.heap.size 25 2 (.slice A3 (k + 1) c3) (k + 1) (scells ((l.take (k + 1)).map toSp)) := by rw [HST.out, scells_append, HCS.out]; exact hO3
        have hB4 : Below w.heap.size w w3 := B2.trans hB3
        clear hO3 hO2 hNr hg3 hB3
        go_roundw
        case rel => exact ⟨k + 1, by omega, by go_num, A3, c3, rfl, hO4, hB4⟩
        case measure => simp [intOf]; omega
    · obtain rfl : k = n := by omega
      have hfin : l.take k = l := List.take_of_length_le (by rw [HLN.out]; exact Nat.le_refl _)
      rw [hfin] at hO
      have hlm : Hid ((l.map toSp).length = k) := Lib.hid (by rw [List.length_map, HLN.out])
      go_wp2
      go_ret
      exact ⟨A2, c2, by rw [hlm.out]; rfl, by rw [hlm.out]; exact hO, hB⟩
theorem mergeE_ok : ∀ (l : List En), (∀ e ∈ l, EnOk e) → ∀ e ∈ mergeE l, EnOk e := by
  suffices h : ∀ (l o : List En), (∀ e ∈ l, EnOk e) → (∀ e ∈ o, EnOk e) → ∀ e ∈ l.foldl mStep o, EnOk e from fun l hl => h l [] hl (by simp)
  intro l; induction l with
  | nil => intro o _ ho; simpa using ho
  | cons x l ih =>
    intro o hl ho
    refine ih _ (fun e he => hl e (by simp [he])) (fun e he => ?_)
    have hx := hl x (by simp)
    rcases List.eq_nil_or_concat o with rfl | ⟨o2, p, hop⟩
    · rw [mStep_nil] at he; rw [List.mem_singleton.1 he]; exact hx
    · rw [List.concat_eq_append] at hop
      subst hop
      have hp := ho p (by simp)
      rw [mStep_snoc] at he
      split at he
      · rcases List.mem_append.1 he with h | h
        · exact ho e (by simp [h])
        · rw [List.mem_singleton.1 h]; unfold EnOk at hx hp ⊢; simp only; omega
      · rcases List.mem_append.1 he with h | h
        · exact ho e h
        · rw [List.mem_singleton.1 h]; exact hx
set_option maxRecDepth 100000 in
theorem merge_any (A : Option Addr) (n c : Nat) (l : List Sp) (hok : ∀ s ∈ l, s.ok) (hE : ∀ e ∈ goodE l, EnOk e) (hn1 : n ≤ 1000000) (w : World) (hR : Rd w w.heap.size 2 A n (scells l)) :
    Calls Tryz.prog 24 #[.slice A n c] w fun e w' => ∃ srt, SortedE (goodE l) srt ∧ SpRet w ((mergeE srt).map toSp) e w' := by
  have hln : l.length = n := by have := hR.len; rw [scells_length] at this; omega
  have h1 := merged_any A n c l hok hn1 w hR
  have hsp := fun A2 m c2 (L : List En) (hL : ∀ e ∈ L, EnOk e) (hm : m ≤ 1000000) W (hr : Rd W W.heap.size 2 A2 m (ecells L)) => spans_any A2 m c2 L hL hm W hr
  have HE := Lib.hid hE
  have HLN := Lib.hid hln
  clear hR hln hE
  go_enter Tryz.func24, Tryz.ntmps24
  go_wp2_with fail
  refine h1.mono ?_
  rintro e W1 ⟨srt, A1, c1, hS, rfl, hO, B1⟩
  have hok2 : ∀ e ∈ mergeE srt, EnOk e := mergeE_ok srt (fun e he => HE.out e ((sortedE_perm hS).mem_iff.1 he))
  have hlen : (mergeE srt).length ≤ 1000000 := by
    have h1 := mergeE_len srt
    have h2 := hS.2.2
    have h3 := goodE_length l
    have h4 := HLN.out
    omega
  have h2 := hsp A1 (mergeE srt).length c1 (mergeE srt) hok2 hlen W1 (Rd.of_own hO)
  have HS := Lib.hid hS
  clear hsp hok2 hlen h1 hO hS
  go_wp2_with fail
  refine h2.mono ?_
  rintro e W2 ⟨A2, c2, rfl, hO2, B2⟩
  clear h2
  go_wp2
  go_ret
  exact ⟨srt, HS.out, A2, c2, by rw [List.length_map]; rfl, own_baseG hO2 B1.size, B1.trans (B2.mono B1.size)⟩
end Go.Proofs.YtpellkblaeeopaaGreatDoor
