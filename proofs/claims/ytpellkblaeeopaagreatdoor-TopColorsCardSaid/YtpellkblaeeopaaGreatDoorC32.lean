/-
  Parts: GcN GcP GcQ GdK.
-/
import Derived.Test.YtpellkblaeeopaaGreatDoorC31
import Derived.Test.YtpellkblaeeopaaGreatDoorC27
import Derived.Test.YtpellkblaeeopaaGreatDoorC14
import Derived.Test.YtpellkblaeeopaaGreatDoorC13
/-
  Walk: frame.Pool.Run: the pool's next pages.
-/
namespace Go.Proofs.YtpellkblaeeopaaGreatDoor
open Go.RowKit Go.Shelf

attribute [local go_sem] Oper.semAt_some

/-- a pool of 256 pages from 0x40000000 of which the first k are handed out; its blocks lie in Q -/
structure PoolW (w : World) (g k : Nat) (Q : Nat → Prop) : Prop where
  le : k ≤ 256
  row : ∃ A c, Blk w g 80 (poolCs A (usedL k).length c k) ∧ w.ownsRow 0 25 2 (.slice A (usedL k).length c) (usedL k).length (scells (usedL k)) ∧ ∀ b, (Value.slice A (usedL k).length c).ownBlock = some b → Q b
  qg : Q g
  lt : ∀ b, Q b → b < w.heap.size
theorem PoolW.chg {w w' : World} {g k : Nat} {Q Z : Nat → Prop} (h : PoolW w g k Q) (c : Chg Z w w') (hZ : ∀ b, Q b → ¬ Z b) : PoolW w' g k Q := by
  obtain ⟨h1, ⟨A, c1, h2, h3, h4⟩, h5, h6⟩ := h
  exact ⟨h1, ⟨A, c1, h2.chg c (hZ g h5), own_chg h3 c (fun b hb => hZ b (h4 b hb)), h4⟩, h5, fun b hb => Nat.lt_of_lt_of_le (h6 b hb) c.size⟩

theorem free_stops (g k : Nat) (hk : k < 256) (A : Option Addr) (n c bb n0 : Nat) (Z : Nat → Prop) (hZ1 : Z bb) (hZ2 : Z g) (w : World) (hn0 : n0 ≤ w.heap.size) (hZl : ∀ b, Z b → b < w.heap.size)
    (hB1 : Blk w bb 30 #[.pointer (some ⟨g, 0, none⟩)]) (hG : Blk w g 80 (poolCs A n c k)) (hR : Rd w n0 2 A n (scells (usedL k))) :
    SeqStopsK Fence.wide 5 Tryz.prog 109 #[.pointer (some ⟨bb, 0, none⟩)] (rsEncs k) (KBs Z n0) (fun ys => ys = [()]) (fun pre => pre <+: [()]) 10000 w := fun ly Jv Jx W hW hAb _ hY h0 =>
  free1_in 5 ly bb n0 (by omega) g k A n c hk Z hZ1 hZ2 Jv Jx W hAb hY (Nat.le_trans hn0 hW.size) (fun b hb => Nat.lt_of_lt_of_le (hZl b hb) hW.size) (hB1.below hW hB1.lt) (hG.below hW hG.lt) (hR.below (hW.mono hn0)) h0

/-- the boxes of Run, and the pool as it was -/
structure RnS (w : World) (g k n al : Nat) (A : Option Addr) (c : Nat) (W : World) : Prop where
  b3 : Blk W w.heap.size 30 #[.pointer (some ⟨g, 0, none⟩)]
  b4 : Blk W (w.heap.size + 1) 3 #[.int .i64 (n : Int)]
  b5 : Blk W (w.heap.size + 2) 22 #[.int .u64 (al : Int)]
  b6 : Blk W (w.heap.size + 3) 22 #[.int .u64 0]
  b7 : Blk W (w.heap.size + 4) 27 #[.int .i64 0]
  b8 : Blk W (w.heap.size + 5) 22 #[.int .u64 ((n : Int) * 4096)]
  b9 : Blk W (w.heap.size + 6) 30 #[.pointer (some ⟨g, 0, none⟩)]
  B : Below w.heap.size w W
theorem RnS.kept {w : World} {g k n al : Nat} {A : Option Addr} {c : Nat} {W W' : World} {row : Option Nat} (hs : RnS w g k n al A c W) (hg : W.grownBy W' row) (hr : ∀ r, row = some r → w.heap.size ≤ r ∧ ∃ o : Obj, W.heap[r]? = some o ∧ o.isCells = false) : RnS w g k n al A c W' := by
  obtain ⟨h3, h4, h5, h6, h7, h8, h9, hB⟩ := hs
  have hr2 : ∀ r, row = some r → ∃ o : Obj, W.heap[r]? = some o ∧ o.isCells = false := fun r e => (hr r e).2
  exact ⟨blk_keptS h3 hg hr2, blk_keptS h4 hg hr2, blk_keptS h5 hg hr2, blk_keptS h6 hg hr2, blk_keptS h7 hg hr2, blk_keptS h8 hg hr2, blk_keptS h9 hg hr2, hB.grown hg hB.size (fun r e => (hr r e).1)⟩
theorem RnS.below {w : World} {g k n al : Nat} {A : Option Addr} {c : Nat} {W W' : World} (hs : RnS w g k n al A c W) (hB : Below W.heap.size W W') : RnS w g k n al A c W' := by
  obtain ⟨h3, h4, h5, h6, h7, h8, h9, B⟩ := hs
  exact ⟨h3.below hB h3.lt, h4.below hB h4.lt, h5.below hB h5.lt, h6.below hB h6.lt, h7.below hB h7.lt, h8.below hB h8.lt, h9.below hB h9.lt, B.trans (hB.mono B.size)⟩
/-- what Run leaves in its boxes -/
structure RnX (w : World) (g k n : Nat) (Q : Nat → Prop) (W : World) : Prop where
  b6 : Blk W (w.heap.size + 3) 22 #[.int .u64 ((1073741824 + k * 4096 : Nat) : Int)]
  b7 : Blk W (w.heap.size + 4) 27 #[.int .i64 0]
  P : PoolW W g (k + n) (fun b => Q b ∨ (w.heap.size ≤ b ∧ b < W.heap.size))
  C : Chg Q w W
theorem run_spanS (w : World) (sb n : Nat) : (Instr.buildSlice 34 1 #[(0, .agg #[.int .u64 (sb : Int), .int .u64 ((n : Int) * 4096)])]).run Tryz.prog w = .ok (.slice (some ⟨w.heap.size, 0, none⟩) 1 1) (w.alloc (.cells #[.int .u64 (sb : Int), .int .u64 ((n : Int) * 4096)] 25)) := by
  have := run_buildSlice_all (P := Tryz.prog) w elSpan 1 #[(0, .agg #[.int .u64 (sb : Int), .int .u64 ((n : Int) * 4096)])] [.agg #[.int .u64 (sb : Int), .int .u64 ((n : Int) * 4096)]] rfl rfl (by omega) (by omega) (by simp [Value.cells])
  simpa [flat, Value.cells] using this
theorem goodE_run (k n sb : Nat) (hsb : sb = 1073741824 + k * 4096) (h1 : 1 ≤ n) (hn : k + n ≤ 255) : goodE (usedL k ++ [⟨sb, n * 4096⟩]) = usedE k ++ [(sb, sb + n * 4096 - 1)] := by
  have hg : (⟨sb, n * 4096⟩ : Sp).good = true := Sp.good_iff.2 (by simp only; omega)
  rw [goodE_snoc, goodE_used (by omega), if_pos hg]
  simp [endOf, Sp.last, hg]
theorem runE_ok (k n sb : Nat) (hsb : sb = 1073741824 + k * 4096) (h1 : 1 ≤ n) (hn : k + n ≤ 255) : ∀ e ∈ usedE k ++ [(sb, sb + n * 4096 - 1)], EnOk e := by
  intro e he
  rcases List.mem_append.1 he with h | h
  · unfold usedE at h
    split at h
    · simp at h
    · rw [List.mem_singleton.1 h]; exact ⟨by simp only; omega, by simp only; omega⟩
  · rw [List.mem_singleton.1 h]; exact ⟨by simp only; omega, by simp only; omega⟩
theorem sorted_two {a b : En} {L : List En} (hab : a.1 < b.1) (h : SortedE [a, b] L) : L = [a, b] := by
  have hp := sortedE_perm h
  have hs := h.2.1 0 1 (by omega) (by omega) (by simp)
  have hl := h.2.2
  match L, hl with
  | [x, y], _ =>
    have hs2 : ltOf endsV y x = false := hs
    rw [ends_lt] at hs2
    have hx : x = a ∨ x = b := by have := hp.mem_iff (a := x); simpa using this.1 (by simp)
    have hb : b = x ∨ b = y := by have := hp.mem_iff (a := b); simpa using this.2 (by simp)
    have ha : a = x ∨ a = y := by have := hp.mem_iff (a := a); simpa using this.2 (by simp)
    simp only [decide_eq_false_iff_not, not_or, not_and] at hs2
    rcases hx with rfl | rfl
    · rcases hb with h1 | h1
      · rw [h1] at hab; omega
      · rw [h1]
    · rcases ha with h1 | h1
      · rw [h1] at hab; omega
      · rw [← h1] at hs2; omega
theorem run_merge (k n sb : Nat) (hsb : sb = 1073741824 + k * 4096) (h1 : 1 ≤ n) (hn : k + n ≤ 255) (srt : List En) (h : SortedE (usedE k ++ [(sb, sb + n * 4096 - 1)]) srt) : (mergeE srt).map toSp = usedL (k + n) := by
  have e : srt = usedE k ++ [(sb, sb + n * 4096 - 1)] := by
    by_cases h0 : k = 0
    · exact sorted_one h (by subst h0; simp [usedE])
    · have e3 : usedE k ++ [(sb, sb + n * 4096 - 1)] = [(1073741824, 1073741824 + k * 4096 - 1), (sb, sb + n * 4096 - 1)] := by unfold usedE; rw [if_neg h0]; rfl
      rw [e3] at h ⊢
      exact sorted_two (by show 1073741824 < sb; omega) h
  rw [e, mergeE_snoc, mergeE_used]
  obtain ⟨B, hB⟩ : ∃ B, B = 1073741824 := ⟨_, rfl⟩
  have e2 : usedL (k + n) = [⟨B, (k + n) * 4096⟩] := by rw [hB]; unfold usedL; rw [if_neg (by omega)]
  rw [e2]
  by_cases h0 : k = 0
  · subst h0
    have e3 : usedE 0 = [] := rfl
    rw [e3, mStep_nil]
    have : sb = B := by omega
    rw [this]
    simp only [List.map_cons, List.map_nil, toSp]
    congr 2; omega
  · have e3 : usedE k = [] ++ [(B, B + k * 4096 - 1)] := by rw [hB]; unfold usedE; rw [if_neg h0]; rfl
    rw [e3, mStep_snoc, if_pos (.inr (by simp only; omega))]
    simp only [List.nil_append, List.map_cons, List.map_nil, toSp]
    congr 2; omega
theorem results_cells2 {P : Program} {fn : Func} {p q : Tmp} {ty ty2 : TypeId} (h : fn.results = #[.cell p ty, .cell q ty2]) (tmps : Array Value) (w : World) (a b : Addr) {v v2 : Value}
    (hp : tmps[p]?.getD undef = .pointer (some a)) (hq : tmps[q]?.getD undef = .pointer (some b)) (ha : w.cell? a = some v) (hb : w.cell? b = some v2)
    (hi : (isAgg ty).run P w = .ok false w) (hi2 : (isAgg ty2).run P w = .ok false w) :
    (results fn tmps).run P w = .ok (.tuple #[v, v2]) w := by
  simp [results, h, hp, hq, asAddr, go_sem, hi, hi2, ha, hb]
theorem kf_chg {B : Nat} {a W W' : World} {Z : Nat → Prop} (h : KeepsFrom B a W) (c : Chg Z W W') (hZ : ∀ b, Z b → b < B) : KeepsFrom B a W' :=
  h.trans ⟨c.size, fun k _ hB ho _ => (c.block k (Array.getElem?_eq_some_iff.1 ho).1 (fun hz => by have := hZ k hz; omega)).trans ho⟩
/-- the frame of Run's round -/
def rnAx (w : World) (g k n al : Nat) (a' : Act) (W : World) : Prop :=
  ∃ g9, Blk W g9 25 (restSp k).cells ∧ a' = { tmps := #[.pointer (some ⟨g, 0, none⟩), .int .i64 (n : Int), .int .u64 (al : Int), .pointer (some ⟨w.heap.size, 0, none⟩), .pointer (some ⟨w.heap.size + 1, 0, none⟩), .pointer (some ⟨w.heap.size + 1 + 1, 0, none⟩), .pointer (some ⟨w.heap.size + 1 + 1 + 1, 0, none⟩), .pointer (some ⟨w.heap.size + 1 + 1 + 1 + 1, 0, none⟩), .pointer (some ⟨w.heap.size + 1 + 1 + 1 + 1 + 1, 0, none⟩), .pointer (some ⟨g9, 0, none⟩), undef, undef, undef, .int .i64 (n : Int), .bool false, .bool false, .int .i64 (n : Int), .bool false, .bool false, .bool false, .int .u64 (al : Int), .bool false, .bool false, .bool false, .int .u64 (al : Int), .int .u64 ((al : Int) % 4096), .bool false, .bool false, .pointer (some ⟨g, 0, none⟩), .bool false, .int .i64 (n : Int), .int .u64 (n : Int), .int .u64 ((n : Int) * 4096), .pointer (some ⟨g, 0, none⟩), .func (.func 109) #[] #[.pointer (some ⟨w.heap.size + 1 + 1 + 1 + 1 + 1 + 1, 0, none⟩)], .agg (restSp k).cells, undef, undef, undef, undef, undef, undef, undef, undef, undef, undef, undef, undef, undef, undef, undef, undef, undef, undef, undef, undef, undef, undef, undef, undef, undef, undef, undef, undef, undef, undef, undef, undef, undef, undef, undef, undef, undef], defers := [] }
theorem PoolW.kept {g k : Nat} {Q : Nat → Prop} {W W' : World} {row : Option Nat} (h : PoolW W g k Q) (hg : W.grownBy W' row) (hr : ∀ r, row = some r → ∃ o : Obj, W.heap[r]? = some o ∧ o.isCells = false) : PoolW W' g k Q := by
  obtain ⟨h1, ⟨A, c1, h2, h3, h4⟩, h5, h6⟩ := h
  exact ⟨h1, ⟨A, c1, blk_keptS h2 hg hr, own_keptS h3 hg hr, h4⟩, h5, fun b hb => Nat.lt_of_lt_of_le (h6 b hb) hg.size⟩
theorem PoolW.mono {g k : Nat} {Q Q' : Nat → Prop} {W : World} (h : PoolW W g k Q) (hQ : ∀ b, Q b → Q' b) (hl : ∀ b, Q' b → b < W.heap.size) : PoolW W g k Q' := by
  obtain ⟨h1, ⟨A, c1, h2, h3, h4⟩, h5, h6⟩ := h
  exact ⟨h1, ⟨A, c1, h2, h3, fun b hb => hQ b (h4 b hb)⟩, hQ g h5, hl⟩
theorem RnX.kept {w : World} {g k n : Nat} {Q : Nat → Prop} {W W' : World} {row : Option Nat} (hs : RnX w g k n Q W) (hg : W.grownBy W' row) (hr : ∀ r, row = some r → w.heap.size ≤ r ∧ ∃ o : Obj, W.heap[r]? = some o ∧ o.isCells = false) : RnX w g k n Q W' := by
  obtain ⟨h6, h7, hP, hC⟩ := hs
  have hr2 : ∀ r, row = some r → ∃ o : Obj, W.heap[r]? = some o ∧ o.isCells = false := fun r e => (hr r e).2
  have hP2 := hP.kept hg hr2
  refine ⟨blk_keptS h6 hg hr2, blk_keptS h7 hg hr2, hP2.mono (fun b hb => by rcases hb with h | h; exact .inl h; exact .inr ⟨h.1, Nat.lt_of_lt_of_le h.2 hg.size⟩) ?_, ?_⟩
  · intro b hb
    rcases hb with h | h
    · exact hP2.lt b (.inl h)
    · exact h.2
  · exact ⟨hg.os.trans hC.os, hg.tape.trans hC.tape, hg.output.trans hC.output, Nat.le_trans hC.size hg.size, fun b hb hn => (hg.block b (Nat.lt_of_lt_of_le hb hC.size) (fun e => by have := (hr b e.symm).1; omega)).trans (hC.block b hb hn)⟩
/-- what Run leaves -/
def RunRet (w : World) (g k n : Nat) (Q : Nat → Prop) (e : Ending) (w' : World) : Prop :=
  e = .returned (.tuple #[.int .u64 ((1073741824 + k * 4096 : Nat) : Int), .int .i64 0]) ∧ PoolW w' g (k + n) (fun b => Q b ∨ (w.heap.size ≤ b ∧ b < w'.heap.size)) ∧ Chg Q w w'

set_option maxRecDepth 100000 in
set_option maxHeartbeats 4000000 in
theorem run_any (g k n al : Nat) (hal : al = 4096 ∨ al = 8192) (hk : (k * 4096) % al = 0) (h1 : 1 ≤ n) (hn : k + n ≤ 255) (Q : Nat → Prop) (w : World) (hP : PoolW w g k Q) :
    Calls Tryz.prog 60 #[.pointer (some ⟨g, 0, none⟩), .int .i64 (n : Int), .int .u64 (al : Int)] w (RunRet w g k n Q) := by
  obtain ⟨_, ⟨A, c, hG, hO, hQ⟩, hQg, hQl⟩ := hP
  have a1 : decide ((n : Int) < 1) = false := by simp; omega
  have a2 : decide ((4096 : Int) < (n : Int)) = false := by simp; omega
  have a3 : ((al : Int) == 0) = false := by simp; omega
  have a4 : ((al : Int).tmod 4096 != 0) = false := by rcases hal with rfl | rfl <;> rfl
  have a5 : IntKind.u64.wrap (n : Int) = (n : Int) := IntWalk.u64_in _ (by omega)
  have a6 : IntKind.u64.wrap ((n : Int) * 4096) = ((n * 4096 : Nat) : Int) := by rw [IntWalk.u64_in _ (by omega)]; omega
  refine (callsIn_wide (n := 6)).1 ?_
  refine callsIn_of_wp_marks Tryz.func60 rfl trivial ?_ rfl
  simp only [Tryz.ntmps60, List.size_toArray, List.length_cons, List.length_nil, Nat.reduceAdd, Nat.reduceSub, Array.replicate_succ, Array.replicate_zero, List.push_toArray, List.append_toArray, List.nil_append, List.cons_append]
  gi_wp2_with fail
  refine ⟨trivial, (free_in Fence.wide 5 trivial rfl g _).mono ?_⟩
  rintro e w' ⟨rfl, rfl⟩
  gi_wp2_with fail
  have hI0 : RnS w g k n al A c (((((((w.alloc (.cells #[.pointer (some ⟨g, 0, none⟩)] 30)).alloc (.cells #[.int .i64 (n : Int)] 3)).alloc (.cells #[.int .u64 (al : Int)] 22)).alloc (.cells #[.int .u64 0] 22)).alloc (.cells #[.int .i64 0] 27)).alloc (.cells #[.int .u64 ((n : Int) * 4096)] 22)).alloc (.cells #[.pointer (some ⟨g, 0, none⟩)] 30)) := by
    have e3 := ((((((Blk.new w 30 #[.pointer (some ⟨g, 0, none⟩)]).alloc (.cells #[.int .i64 (n : Int)] 3)).alloc (.cells #[.int .u64 (al : Int)] 22)).alloc (.cells #[.int .u64 0] 22)).alloc (.cells #[.int .i64 0] 27)).alloc (.cells #[.int .u64 ((n : Int) * 4096)] 22)).alloc (.cells #[.pointer (some ⟨g, 0, none⟩)] 30)
    refine ⟨e3, ?_, ?_, ?_, ?_, ?_, ?_, ?_⟩
    · have := (((((Blk.new (w.alloc (.cells #[.pointer (some ⟨g, 0, none⟩)] 30)) 3 #[.int .i64 (n : Int)]).alloc (.cells #[.int .u64 (al : Int)] 22)).alloc (.cells #[.int .u64 0] 22)).alloc (.cells #[.int .i64 0] 27)).alloc (.cells #[.int .u64 ((n : Int) * 4096)] 22)).alloc (.cells #[.pointer (some ⟨g, 0, none⟩)] 30)
      simpa only [World.size_alloc] using this
    · have := ((((Blk.new ((w.alloc (.cells #[.pointer (some ⟨g, 0, none⟩)] 30)).alloc (.cells #[.int .i64 (n : Int)] 3)) 22 #[.int .u64 (al : Int)]).alloc (.cells #[.int .u64 0] 22)).alloc (.cells #[.int .i64 0] 27)).alloc (.cells #[.int .u64 ((n : Int) * 4096)] 22)).alloc (.cells #[.pointer (some ⟨g, 0, none⟩)] 30)
      simpa only [World.size_alloc] using this
    · have := (((Blk.new (((w.alloc (.cells #[.pointer (some ⟨g, 0, none⟩)] 30)).alloc (.cells #[.int .i64 (n : Int)] 3)).alloc (.cells #[.int .u64 (al : Int)] 22)) 22 #[.int .u64 0]).alloc (.cells #[.int .i64 0] 27)).alloc (.cells #[.int .u64 ((n : Int) * 4096)] 22)).alloc (.cells #[.pointer (some ⟨g, 0, none⟩)] 30)
      simpa only [World.size_alloc] using this
    · have := ((Blk.new ((((w.alloc (.cells #[.pointer (some ⟨g, 0, none⟩)] 30)).alloc (.cells #[.int .i64 (n : Int)] 3)).alloc (.cells #[.int .u64 (al : Int)] 22)).alloc (.cells #[.int .u64 0] 22)) 27 #[.int .i64 0]).alloc (.cells #[.int .u64 ((n : Int) * 4096)] 22)).alloc (.cells #[.pointer (some ⟨g, 0, none⟩)] 30)
      simpa only [World.size_alloc] using this
    · have := (Blk.new (((((w.alloc (.cells #[.pointer (some ⟨g, 0, none⟩)] 30)).alloc (.cells #[.int .i64 (n : Int)] 3)).alloc (.cells #[.int .u64 (al : Int)] 22)).alloc (.cells #[.int .u64 0] 22)).alloc (.cells #[.int .i64 0] 27)) 22 #[.int .u64 ((n : Int) * 4096)]).alloc (.cells #[.pointer (some ⟨g, 0, none⟩)] 30)
      simpa only [World.size_alloc] using this
    · have := Blk.new ((((((w.alloc (.cells #[.pointer (some ⟨g, 0, none⟩)] 30)).alloc (.cells #[.int .i64 (n : Int)] 3)).alloc (.cells #[.int .u64 (al : Int)] 22)).alloc (.cells #[.int .u64 0] 22)).alloc (.cells #[.int .i64 0] 27)).alloc (.cells #[.int .u64 ((n : Int) * 4096)] 22)) 30 #[.pointer (some ⟨g, 0, none⟩)]
      simpa only [World.size_alloc] using this
    · exact (((((((Below.refl _ w).alloc (Nat.le_refl _) _).alloc (by simp) _).alloc (by simp; omega) _).alloc (by simp; omega) _).alloc (by simp; omega) _).alloc (by simp; omega) _).alloc (by simp; omega) _
  have hs2 : (((((((w.alloc (.cells #[.pointer (some ⟨g, 0, none⟩)] 30)).alloc (.cells #[.int .i64 (n : Int)] 3)).alloc (.cells #[.int .u64 (al : Int)] 22)).alloc (.cells #[.int .u64 0] 22)).alloc (.cells #[.int .i64 0] 27)).alloc (.cells #[.int .u64 ((n : Int) * 4096)] 22)).alloc (.cells #[.pointer (some ⟨g, 0, none⟩)] 30)).heap.size = w.heap.size + 7 := by simp
  generalize (((((((w.alloc (.cells #[.pointer (some ⟨g, 0, none⟩)] 30)).alloc (.cells #[.int .i64 (n : Int)] 3)).alloc (.cells #[.int .u64 (al : Int)] 22)).alloc (.cells #[.int .u64 0] 22)).alloc (.cells #[.int .i64 0] 27)).alloc (.cells #[.int .u64 ((n : Int) * 4096)] 22)).alloc (.cells #[.pointer (some ⟨g, 0, none⟩)] 30)) = W2 at *
  have hGl := hG.lt
  have hp2 : w.heap.size ≤ W2.heap.size := by omega
  refine wpIn_rangeFunc_ownH rfl (by omega) (gf := 109) (lb := #[.pointer (some ⟨w.heap.size + 6, 0, none⟩)]) rfl trivial (enters_of Tryz.func109 (by kernel_rfl) rfl)
    (free_stops g k (by omega) A (usedL k).length c (w.heap.size + 6) w.heap.size (fun b => b = w.heap.size + 6 ∨ b = g) (.inl rfl) (.inr rfl) W2 hp2 (fun b hb => by rcases hb with rfl | rfl <;> omega) hI0.b9 (hG.below hI0.B hGl) ((Rd.of_own hO).below hI0.B)) (fun h k => h.trans k)
    (fun W l o o' hl h h1 h2 => ⟨fun b hb => World.putObj_heap_other (by rcases hb with rfl | rfl <;> omega), belowK_b (w := W2) hp2 W l o o' hl h h1 h2⟩) (Below.refl _ _) (fun _ => rfl)
    (fun pre W => pre = [] ∧ RnS w g k n al A c W) (fun cc pre W => cc = .ret ∧ RnX w g k n Q W)
    (fun s W W' row hs hg hr => ⟨hs.1, hs.2.kept hg (fun r e => ⟨by have := (hr r e).1; omega, (hr r e).2⟩)⟩)
    (fun cc s W W' row hs hg hr => ⟨hs.1, hs.2.kept hg (fun r e => ⟨by have := (hr r e).1; omega, (hr r e).2⟩)⟩) ⟨rfl, hI0⟩
    (fun _ => rnAx w g k n al) (fun x a' _ W W' row hs hg hr => by obtain ⟨g5, h1, h2⟩ := hs; exact ⟨g5, blk_keptS h1 hg (fun r e => (hr r e).2), h2⟩) ?assign ?body ?done ?stop
  case assign =>
    rintro ly pre x W K' ⟨hpre, hI⟩ hK
    simp only [rsEncs, Sp.cells]
    gi_wp2
    refine hK _ _ (KeepsOthers.from (KeepsOthers.alloc _ _) _) ⟨fun b hb => ?_, (Below.refl _ W).alloc hI.B.size _⟩ ⟨hpre, ?_⟩ ⟨W.heap.size, Blk.new W _ _, rfl⟩
    · have l1 := hI.b9.lt
      have l2 : g < W.heap.size := Nat.lt_of_lt_of_le hGl hI.B.size
      exact ((Chg.refl (fun b => b = W.heap.size) W).alloc _).block b (by rcases hb with rfl | rfl <;> omega) (by rcases hb with rfl | rfl <;> omega)
    · obtain ⟨h3, h4, h5, h6, h7, h8, h9, hB⟩ := hI
      exact ⟨h3.alloc _, h4.alloc _, h5.alloc _, h6.alloc _, h7.alloc _, h8.alloc _, h9.alloc _, hB.alloc hB.size _⟩
  case done =>
    rintro D ys W hD rfl ⟨h, _⟩ _
    cases h
  case body =>
    rintro ly pre x a' wr hl ⟨r, hr⟩ ⟨rfl, hI⟩ ⟨g9, hX9, rfl⟩ hlen
    obtain ⟨i, hi2, hi3, hi4, hi5⟩ := elSpan.info
    obtain ⟨sb, hsb⟩ : ∃ sb, sb = 1073741824 + k * 4096 := ⟨_, rfl⟩
    obtain ⟨sz, hsz⟩ : ∃ sz, sz = (256 - k) * 4096 := ⟨_, rfl⟩
    have hrs : restSp k = ⟨sb, sz⟩ := by rw [hsb, hsz]; rfl
    have hsm : sb % al = 0 := by rw [hsb]; rcases hal with rfl | rfl <;> omega
    have hup : ∀ W, Calls Tryz.prog 19 #[.int .u64 (sb : Int), .int .u64 (al : Int)] W fun e w' => e = .returned (.tuple #[.int .u64 (sb : Int), .bool true]) ∧ Below W.heap.size W w' := fun W => by
      have h0 : al ≠ 0 := by omega
      have := up_any (n := sb) (a := al) (w := W) (hn := by unfold P64; omega) (ha := by unfold P64; omega)
      rwa [show upN sb al = sb by rw [upN, if_neg h0, if_pos hsm], show upB sb al = true by rw [upB]; simp [h0, hsm]] at this
    have hwi : ∀ W, Calls Tryz.prog 82 #[.agg #[.int .u64 (sb : Int), .int .u64 ((n : Int) * 4096)], .agg #[.int .u64 (sb : Int), .int .u64 (sz : Int)]] W (BoolRet W true) := fun W => by
      have := within_any ⟨sb, n * 4096⟩ ⟨sb, sz⟩ ⟨by simp only; omega, by simp only; omega⟩ ⟨by simp only; omega, by simp only; omega⟩ W
      rw [show (⟨sb, n * 4096⟩ : Sp).within ⟨sb, sz⟩ = true by simp only [Sp.within, Sp.good_iff, decide_eq_true_eq]; omega] at this
      simp only [Sp.cells] at this
      rwa [show ((n * 4096 : Nat) : Int) = (n : Int) * 4096 by omega] at this
    rw [hrs] at hX9 ⊢
    simp only [Sp.cells] at hX9 ⊢
    have x0 : wr.cell? ⟨g9, 0, none⟩ = some (.int .u64 (sb : Int)) := (hX9.cell 0).trans rfl
    have y5 : wr.cell? ⟨w.heap.size + 1 + 1, 0, none⟩ = some (.int .u64 (al : Int)) := (hI.b5.cell 0).trans rfl
    have HSB := Lib.hid hsb
    have HSZ := Lib.hid hsz
    clear hsb hsz hrs hsm
    gi_wp2_with fail
    refine ⟨trivial, ((callsIn_wide (n := 3)).2 (hup _)).mono ?_⟩
    rintro e w5 ⟨rfl, hB5⟩
    have hI5 := hI.below hB5
    have hX5 := hX9.below hB5 hX9.lt
    have HI0 := Lib.hid hI.B.size
    have z8 : w5.cell? ⟨w.heap.size + 1 + 1 + 1 + 1 + 1, 0, none⟩ = some (.int .u64 ((n : Int) * 4096)) := (hI5.b8.cell 0).trans rfl
    have hI6 := hI5.below ((Below.refl _ w5).alloc (Nat.le_refl _) (.cells #[.int .u64 (sb : Int), .int .u64 ((n : Int) * 4096)] 25))
    have hX6 := hX5.alloc (.cells #[.int .u64 (sb : Int), .int .u64 ((n : Int) * 4096)] 25)
    have hN6 := Blk.new w5 25 #[.int .u64 (sb : Int), .int .u64 ((n : Int) * 4096)]
    have v0 : (w5.alloc (.cells #[.int .u64 (sb : Int), .int .u64 ((n : Int) * 4096)] 25)).cell? ⟨g9, 0, none⟩ = some (.int .u64 (sb : Int)) := (hX6.cell 0).trans rfl
    have v1 : (w5.alloc (.cells #[.int .u64 (sb : Int), .int .u64 ((n : Int) * 4096)] 25)).cell? ⟨g9, 1, none⟩ = some (.int .u64 (sz : Int)) := (hX6.cell 1).trans rfl
    have hB5' := hB5
    clear x0 y5 hup hB5
    gi_wp2_with fail
    refine ⟨trivial, ((callsIn_wide (n := 3)).2 (hwi _)).mono ?_⟩
    rintro e w6 ⟨rfl, hB6⟩
    have hKF : KeepsFrom (w.heap.size + 7) wr w6.drew := (kf_chg (Z := fun _ => False) (kf_chg (Z := fun _ => False) (kf_chg (Z := fun _ => False) (KeepsFrom.refl _ wr) (Chg.of_below hB5' (fun k h1 h2 => absurd h2 (by omega))) (fun _ h => h.elim)) ((Chg.refl _ w5).alloc (.cells #[.int .u64 (sb : Int), .int .u64 ((n : Int) * 4096)] 25)) (fun _ h => h.elim)) (Chg.of_below hB6 (fun k h1 h2 => absurd h2 (by omega))) (fun _ h => h.elim)).trans ((KeepsOthers.drew _).from _)
    have hI7 := hI6.below hB6
    have hN7 := hN6.below hB6 hN6.lt
    have hG7 := hG.below hI7.B hGl
    have hO7 := own_chg hO (Chg.of_below (Z := fun b => w.heap.size ≤ b) hI7.B (fun _ h _ => h)) (fun b hb h => by have := hQl b (hQ b hb); omega)
    obtain ⟨wb, hwb⟩ : ∃ wb, wb = w5.heap.size := ⟨_, rfl⟩
    rw [← hwb] at hN7 ⊢
    have hwl : w.heap.size ≤ wb := by rw [hwb]; exact hI5.B.size
    have c3 : w6.cell? ⟨w.heap.size, 0, none⟩ = some (.pointer (some ⟨g, 0, none⟩)) := (hI7.b3.cell 0).trans rfl
    have cg2 : w6.cell? ⟨g, 2, none⟩ = some (.slice A (usedL k).length c) := (hG7.cell 2).trans rfl
    have u0 : w6.cell? ⟨wb, 0, none⟩ = some (.int .u64 (sb : Int)) := (hN7.cell 0).trans rfl
    have u1 : w6.cell? ⟨wb, 1, none⟩ = some (.int .u64 ((n : Int) * 4096)) := (hN7.cell 1).trans rfl
    have hUl : (usedL k).length ≤ 1 := by unfold usedL; split <;> simp
    obtain ⟨m, hm⟩ : ∃ m, m = (usedL k).length := ⟨_, rfl⟩
    rw [← hm] at hO7 cg2 hUl
    have HM := Lib.hid hm
    clear hB6 hI6 hX6 hN6 v0 v1 z8 hI5 hX5 hwi hwb hX9 hm
    have hs6 := hI7.B.size
    have hQm : ∀ b, (Value.slice A m c).ownBlock = some b → Q b := by rw [HM.out]; exact hQ
    have hzg : ¬ (Value.slice A m c).ownBlock = some g := fun h => by have := own_ne hO7 hG7 (by decide) h; exact this rfl
    have hz3 : ¬ (Value.slice A m c).ownBlock = some w.heap.size := fun h => by have := hQl _ (hQm _ h); omega
    have hz4 : ¬ (Value.slice A m c).ownBlock = some (w.heap.size + 1) := fun h => by have := hQl _ (hQm _ h); omega
    have hz6 : ¬ (Value.slice A m c).ownBlock = some (w.heap.size + 3) := fun h => by have := hQl _ (hQm _ h); omega
    have hz7 : ¬ (Value.slice A m c).ownBlock = some (w.heap.size + 4) := fun h => by have := hQl _ (hQm _ h); omega
    have hzw : ¬ (Value.slice A m c).ownBlock = some wb := fun h => by have := hQl _ (hQm _ h); omega
    have hC7 : Chg Q w w6 := Chg.of_below hI7.B (fun k h1 h2 => absurd h2 (by omega))
    have hsc : scells (usedL k ++ [⟨sb, n * 4096⟩]) = scells (usedL k) ++ [.int .u64 (sb : Int), .int .u64 ((n : Int) * 4096)] := by
      rw [scells_append]; simp [scells, Sp.cells]
    have hok2 : ∀ s ∈ usedL k ++ [⟨sb, n * 4096⟩], s.ok := by
      intro s hs
      rcases List.mem_append.1 hs with h | h
      · exact usedL_ok (by omega) s h
      · have := HSB.out
        rw [List.mem_singleton.1 h]; exact ⟨by simp only; omega, by simp only; omega⟩
    have hge := goodE_run k n sb HSB.out h1 hn
    have hen2 : ∀ e ∈ goodE (usedL k ++ [⟨sb, n * 4096⟩]), EnOk e := by rw [hge]; exact runE_ok k n sb HSB.out h1 hn
    have hmrg : ∀ srt, SortedE (goodE (usedL k ++ [⟨sb, n * 4096⟩])) srt → (mergeE srt).map toSp = usedL (k + n) := fun srt h => run_merge k n sb HSB.out h1 hn srt (by rwa [hge] at h)
    rw [← HM.out] at hG7
    clear hge c3 cg2 u0 u1
    gi_wp2_with fail
    refine Flow.wpIn_region_flow (Plain.round ly) (by kernel_rfl) (0) [(7, fun b => (Value.slice A m c).ownBlock = some b), (11, fun b => b = g)] [(0, fun W => Blk W (w.heap.size) 30 #[.pointer (some ⟨g, 0, none⟩)]), (1, fun W => Blk W (w.heap.size) 30 #[.pointer (some ⟨g, 0, none⟩)]), (4, fun W => Blk W (g) 80 (poolCs A m c k)), (5, fun W => Blk W (wb) 25 #[.int .u64 (sb : Int), .int .u64 ((n : Int) * 4096)]), (7, fun W => W.ownsRow 0 25 2 (.slice A m c) m (scells (usedL k))), (11, fun W => Blk W g 80 (poolCs A m c k)), (12, fun W => Blk W (w.heap.size) 30 #[.pointer (some ⟨g, 0, none⟩)]), (12, fun W => Blk W (w.heap.size + 1) 3 #[.int .i64 (n : Int)]), (12, fun W => Blk W (w.heap.size + 3) 22 #[.int .u64 0]), (12, fun W => Blk W (w.heap.size + 4) 27 #[.int .i64 0]), (12, fun W => Chg Q w W), (12, fun W => KeepsFrom (w.heap.size + 7) wr W)] (by kernel_rfl) (by kernel_rfl) (Nat.zero_le _) (Flow.nz_cons (fun b _ => Nat.zero_le _) (Flow.nz_cons (fun b _ => Nat.zero_le _) Flow.nz_nil)) (Flow.facts_cons (hI7.b3.drew) (Flow.kept_blk id) (Flow.fz_cons (fun _ => Flow.kept_blk (by first | assumption | (show ¬ _ = _; first | assumption | omega | (simp; omega)) | (show ¬ (_ ≤ _); omega))) (Flow.fz_cons (Flow.no_follow (by kernel_rfl)) Flow.fz_nil)) (Flow.facts_cons (hI7.b3.drew) (Flow.kept_blk id) (Flow.fz_cons (Flow.no_follow (by kernel_rfl)) (Flow.fz_cons (Flow.no_follow (by kernel_rfl)) Flow.fz_nil)) (Flow.facts_cons (hG7.drew) (Flow.kept_blk id) (Flow.fz_cons (Flow.no_follow (by kernel_rfl)) (Flow.fz_cons (Flow.no_follow (by kernel_rfl)) Flow.fz_nil)) (Flow.facts_cons (hN7.drew) (Flow.kept_blk id) (Flow.fz_cons (Flow.no_follow (by kernel_rfl)) (Flow.fz_cons (Flow.no_follow (by kernel_rfl)) Flow.fz_nil)) (Flow.facts_cons (hO7.drew) (Flow.kept_own (fun _ _ => id)) (Flow.fz_cons (Flow.no_follow (by kernel_rfl)) (Flow.fz_cons (Flow.no_follow (by kernel_rfl)) Flow.fz_nil)) (Flow.facts_cons (hG7.drew) (Flow.kept_blk id) (Flow.fz_cons (fun _ => Flow.kept_blk hzg) (Flow.fz_cons (Flow.no_follow (by kernel_rfl)) Flow.fz_nil)) (Flow.facts_cons (hI7.b3.drew) (Flow.kept_blk id) (Flow.fz_cons (fun _ => Flow.kept_blk (by first | assumption | (show ¬ _ = _; first | assumption | omega | (simp; omega)) | (show ¬ (_ ≤ _); omega))) (Flow.fz_cons (fun _ => Flow.kept_blk (by first | assumption | (show ¬ _ = _; first | assumption | omega | (simp; omega)) | (show ¬ (_ ≤ _); omega))) Flow.fz_nil)) (Flow.facts_cons (hI7.b4.drew) (Flow.kept_blk id) (Flow.fz_cons (fun _ => Flow.kept_blk (by first | assumption | (show ¬ _ = _; first | assumption | omega | (simp; omega)) | (show ¬ (_ ≤ _); omega))) (Flow.fz_cons (fun _ => Flow.kept_blk (by first | assumption | (show ¬ _ = _; first | assumption | omega | (simp; omega)) | (show ¬ (_ ≤ _); omega))) Flow.fz_nil)) (Flow.facts_cons (hI7.b6.drew) (Flow.kept_blk id) (Flow.fz_cons (fun _ => Flow.kept_blk (by first | assumption | (show ¬ _ = _; first | assumption | omega | (simp; omega)) | (show ¬ (_ ≤ _); omega))) (Flow.fz_cons (fun _ => Flow.kept_blk (by first | assumption | (show ¬ _ = _; first | assumption | omega | (simp; omega)) | (show ¬ (_ ≤ _); omega))) Flow.fz_nil)) (Flow.facts_cons (hI7.b7.drew) (Flow.kept_blk id) (Flow.fz_cons (fun _ => Flow.kept_blk (by first | assumption | (show ¬ _ = _; first | assumption | omega | (simp; omega)) | (show ¬ (_ ≤ _); omega))) (Flow.fz_cons (fun _ => Flow.kept_blk (by first | assumption | (show ¬ _ = _; first | assumption | omega | (simp; omega)) | (show ¬ (_ ≤ _); omega))) Flow.fz_nil)) (Flow.facts_cons (hC7.drew) (fun _ _ c h => h.trans (c.mono (fun _ h => h.elim))) (Flow.fz_cons (fun _ => fun _ _ c h => h.trans (c.mono (fun b hb => hQm b hb))) (Flow.fz_cons (fun _ => fun _ _ c h => h.trans (c.mono (fun b hb => hb ▸ hQg))) Flow.fz_nil)) (Flow.facts_cons (hKF) (fun _ _ c h => kf_chg h c (fun _ h => h.elim)) (Flow.fz_cons (fun _ => fun _ _ c h => kf_chg h c (fun b hb => by have := hQl b (hQm b hb); omega)) (Flow.fz_cons (fun _ => fun _ _ c h => kf_chg h c (fun b hb => by have hb : b = g := hb; omega)) Flow.fz_nil)) Flow.facts_nil)))))))))))) ?_
    refine Flow.pass_val (.pointer (some ⟨g, 0, none⟩)) (Flow.met_none rfl) (fun a W hH => ?_) ?_
    · have e0 := Flow.see_old 3 hH.sees (by kernel_rfl) (by kernel_rfl) rfl
      have fa0 : (fun W => Blk W (w.heap.size) 30 #[.pointer (some ⟨g, 0, none⟩)]) W := hH.fact _ (List.mem_of_getElem? (i := 0) rfl) rfl
      have cc : World.cell? W ⟨w.heap.size, 0, none⟩ = some (.pointer (some ⟨g, 0, none⟩)) := (fa0.cell 0).trans rfl; go_simp; first | done | rfl
    refine Flow.pass_val (.pointer (some ⟨g, 0, none⟩)) (Flow.met_none rfl) (fun a W hH => ?_) ?_
    · have e0 := Flow.see_old 3 hH.sees (by kernel_rfl) (by kernel_rfl) rfl
      have fa1 : (fun W => Blk W (w.heap.size) 30 #[.pointer (some ⟨g, 0, none⟩)]) W := hH.fact _ (List.mem_of_getElem? (i := 1) rfl) rfl
      have cc : World.cell? W ⟨w.heap.size, 0, none⟩ = some (.pointer (some ⟨g, 0, none⟩)) := (fa1.cell 0).trans rfl; go_simp; first | done | rfl
    refine Flow.pass_val (.pointer (some ⟨g, 0, none⟩)) (Flow.met_none rfl) (fun a W hH => ?_) ?_
    · have e0 := Flow.see_new 53 1 hH.sees (by kernel_rfl) (by kernel_rfl) rfl rfl
      go_simp; first | done | rfl
    refine Flow.pass_val (.pointer (some ⟨g, 2, none⟩)) (Flow.met_none rfl) (fun a W hH => ?_) ?_
    · have e0 := Flow.see_new 54 2 hH.sees (by kernel_rfl) (by kernel_rfl) rfl rfl
      go_simp; first | done | rfl
    refine Flow.pass_val (.slice A m c) (Flow.met_none rfl) (fun a W hH => ?_) ?_
    · have e0 := Flow.see_new 55 3 hH.sees (by kernel_rfl) (by kernel_rfl) rfl rfl
      have fa2 : (fun W => Blk W (g) 80 (poolCs A m c k)) W := hH.fact _ (List.mem_of_getElem? (i := 2) rfl) rfl
      have cc : World.cell? W ⟨g, 2, none⟩ = some (.slice A m c) := (fa2.cell 2).trans rfl; go_simp; first | done | rfl
    refine Flow.pass_val (.agg #[.int .u64 (sb : Int), .int .u64 ((n : Int) * 4096)]) (Flow.met_none rfl) (fun a W hH => ?_) ?_
    · have e0 := Flow.see_old 12 hH.sees (by kernel_rfl) (by kernel_rfl) rfl
      have fa3 : (fun W => Blk W (wb) 25 #[.int .u64 (sb : Int), .int .u64 ((n : Int) * 4096)]) W := hH.fact _ (List.mem_of_getElem? (i := 3) rfl) rfl
      exact reg_loadPG 25 _ rfl e0 fa3 Tryz.underlying25 rfl infSpan
    refine Flow.pass_gen (fun v W => ∃ b, v = .slice (some ⟨b, 0, none⟩) 1 1 ∧ (w6.heap.size ≤ b ∧ Blk W b 25 #[.int .u64 (sb : Int), .int .u64 ((n : Int) * 4096)])) (Flow.kept_of (fun _ _ _ c ⟨b, h1, h2, h3⟩ => ⟨b, h1, h2, h3.chg c id⟩) (Flow.kz_cons (fun _ => fun _ _ _ c ⟨b, h1, h2, h3⟩ => ⟨b, h1, h2, h3.chg c (fun hb => by have := hQl b (hQm b hb); omega)⟩) (Flow.kz_cons (fun _ => fun _ _ _ c ⟨b, h1, h2, h3⟩ => ⟨b, h1, h2, h3.chg c (fun hb => by have hb : b = g := hb; omega)⟩) Flow.kz_nil))) (Flow.met_none rfl) (fun a W hH => ?_) ?_
    · have e0 := Flow.see_new 57 5 hH.sees (by kernel_rfl) (by kernel_rfl) rfl rfl
      refine Flow.wp_run (Flow.reg_buildSlice _ rfl (by simp [Act.eval, e0]) (run_spanS W sb n)) ?_
      exact ⟨_, rfl, Chg.of_ext ((Ext.refl W).alloc _), W.heap.size, rfl, hH.below.size, Blk.new _ _ _⟩
    refine Flow.pass_list (fun v W => ∃ A1 c1, v = .slice A1 (m + 1) c1 ∧ W.ownsRow 0 25 2 (.slice A1 (m + 1) c1) (m + 1) (scells (usedL k ++ [⟨sb, n * 4096⟩])) ∧ ∀ b, (Value.slice A1 (m + 1) c1).ownBlock = some b → ¬ b = g) (Flow.kept_of (fun _ _ _ c ⟨A1, c1, h1, h2, h3⟩ => ⟨A1, c1, h1, own_chg h2 c (fun _ _ => id), h3⟩) (Flow.kz_cons (Flow.no_follow (by kernel_rfl)) (Flow.kz_cons (fun _ => fun _ _ _ c ⟨A1, c1, h1, h2, h3⟩ => ⟨A1, c1, h1, own_chg h2 c h3, h3⟩) Flow.kz_nil))) (Flow.met_none rfl) (fun a W hH => ?_) ?_
    · have e0 := Flow.see_new 56 4 hH.sees (by kernel_rfl) (by kernel_rfl) rfl rfl
      obtain ⟨b1, e1, q1⟩ := Flow.see_up 58 6 hH.sees (by kernel_rfl) (by kernel_rfl) rfl rfl
      have fa4 : (fun W => W.ownsRow 0 25 2 (.slice A m c) m (scells (usedL k))) W := hH.fact _ (List.mem_of_getElem? (i := 4) rfl) rfl
      refine wpList_app W elSpan rfl _ _ rfl 0 A m c _ (by simpa [Act.eval] using e0) fa4 W.heap.size (some ⟨b1, 0, none⟩) 1 1 [.int .u64 (sb : Int), .int .u64 ((n : Int) * 4096)] (by simpa [Act.eval] using e1) (by have := q1.2.rd (size := 2) (n := 1) rfl; simpa using this) (fun u hu => by simp only [List.mem_cons, List.not_mem_nil, or_false] at hu; rcases hu with rfl | rfl <;> rfl) (by omega) (by omega) (Nat.zero_le _) ?_
      intro A1 c1 W2 hO2 hg hB hob
      have hw7 : w6.heap.size ≤ W.heap.size := hH.below.size
      exact Flow.qq_nil ⟨_, rfl, Chg.grown hg (fun b hb => hb), A1, c1, rfl, (by rw [hsc]; exact hO2), fun b hb e => by subst e; rcases hob with h | h; exact hzg (h.symm.trans hb); rw [hb] at h; have := Option.some.inj h; omega⟩
    refine Flow.pass_step (fun v W => ∃ A1 c1, v = .slice A1 (usedL (k + n)).length c1 ∧ W.ownsRow w.heap.size 25 2 (.slice A1 (usedL (k + n)).length c1) (usedL (k + n)).length (scells (usedL (k + n)))) (Flow.kept_of (fun _ _ _ c ⟨A1, c1, h1, h2⟩ => ⟨A1, c1, h1, own_chg h2 c (fun _ _ => id)⟩) (Flow.kz_cons (Flow.no_follow (by kernel_rfl)) (Flow.kz_cons (fun _ => fun _ _ _ c ⟨A1, c1, h1, h2⟩ => ⟨A1, c1, h1, own_chg h2 c (fun b hb e => by have e : b = g := e; have := (h2.lt b hb).1; omega)⟩) Flow.kz_nil))) (Flow.met_none rfl) (fun a W hH => ?_) ?_
    · obtain ⟨A10, c10, e0, q0⟩ := Flow.see_up 59 7 hH.sees (by kernel_rfl) (by kernel_rfl) rfl rfl
      refine Reg.wp_call rfl Tryz.func24 rfl (by kernel_rfl) (by simp [Act.eval, e0]) (merge_any A10 (m + 1) c10 (usedL k ++ [⟨sb, n * 4096⟩]) hok2 hen2 (by omega) W (Rd.of_own q0.1)) ?_
      rintro e w' ⟨srt, hst, A2, c2, rfl, hO2, hB⟩
      rw [hmrg srt hst] at hO2 ⊢
      exact ⟨_, rfl, _, rfl, hB, A2, c2, rfl, own_baseG hO2 (Nat.le_trans hs6 hH.below.size)⟩
    refine Flow.pass_val (.pointer (some ⟨g, 0, none⟩)) (Flow.met_none rfl) (fun a W hH => ?_) ?_
    · have e0 := Flow.see_new 52 0 hH.sees (by kernel_rfl) (by kernel_rfl) rfl rfl
      go_simp; first | done | rfl
    refine Flow.pass_val (.pointer (some ⟨g, 2, none⟩)) (Flow.met_none rfl) (fun a W hH => ?_) ?_
    · have e0 := Flow.see_new 61 9 hH.sees (by kernel_rfl) (by kernel_rfl) rfl rfl
      go_simp; first | done | rfl
    refine Flow.pass_gen (fun _ W => ∃ A1 c1, Blk W g 80 (poolCs A1 (usedL (k + n)).length c1 k) ∧ W.ownsRow w.heap.size 25 2 (.slice A1 (usedL (k + n)).length c1) (usedL (k + n)).length (scells (usedL (k + n)))) (Flow.kept_of (fun _ _ _ c ⟨A1, c1, h1, h2⟩ => ⟨A1, c1, h1.chg c id, own_chg h2 c (fun _ _ => id)⟩) (Flow.kz_cons (Flow.no_follow (by kernel_rfl)) (Flow.kz_cons (Flow.no_follow (by kernel_rfl)) Flow.kz_nil))) (Flow.met_none rfl) (fun a W hH => ?_) ?_
    · have e0 := Flow.see_new 62 10 hH.sees (by kernel_rfl) (by kernel_rfl) rfl rfl
      obtain ⟨A21, c21, e1, q1⟩ := Flow.see_up 60 8 hH.sees (by kernel_rfl) (by kernel_rfl) rfl rfl
      have fa5 : (fun W => Blk W g 80 (poolCs A m c k)) W := hH.fact _ (List.mem_of_getElem? (i := 5) rfl) rfl
      refine wp_skip (reg_storeSlice rfl (by kernel_rfl) fa5 e0 e1 (by show 2 < 4; omega)) ?_
      refine ⟨_, rfl, Chg.grown (s_grown _ _ _ _) (by rintro k h; cases h; rfl), A21, c21, ?_, own_chg q1 (Chg.grown (s_grown _ _ _ _) (Z := fun b => b = g) (by rintro k h; cases h; rfl)) (fun b hb e => ?_)⟩
      · exact fa5.set_ 2 _
      · have e2 : b = g := e; have := (q1.lt b hb).1; omega
    refine Flow.pass_end [none, none, none, none, none, none, none, none, none, none, none, none, none, none, none, none, none, none, none, none, none, none, none, none, none, none, none, none, none, none, none, none, none, none, none, none, none, none, none, none, none, none, none, none, none, none, none, none, none, none, none, none, some 52, some 53, some 54, some 55, some 56, some 57, some 58, some 59, some 60, some 61, some 62, none, none, none, none, none, none, none, none, none, none] (by kernel_rfl) ?_
    intro f gg w9 hB hfa hT hfg
    have F6 : (fun W => Blk W (w.heap.size) 30 #[.pointer (some ⟨g, 0, none⟩)]) w9 := hfa _ (List.mem_of_getElem? (i := 6) rfl) (Nat.le_refl _)
    have F7 : (fun W => Blk W (w.heap.size + 1) 3 #[.int .i64 (n : Int)]) w9 := hfa _ (List.mem_of_getElem? (i := 7) rfl) (Nat.le_refl _)
    have F8 : (fun W => Blk W (w.heap.size + 3) 22 #[.int .u64 0]) w9 := hfa _ (List.mem_of_getElem? (i := 8) rfl) (Nat.le_refl _)
    have F9 : (fun W => Blk W (w.heap.size + 4) 27 #[.int .i64 0]) w9 := hfa _ (List.mem_of_getElem? (i := 9) rfl) (Nat.le_refl _)
    have F10 : (fun W => Chg Q w W) w9 := hfa _ (List.mem_of_getElem? (i := 10) rfl) (Nat.le_refl _)
    have F11 : (fun W => KeepsFrom (w.heap.size + 7) wr W) w9 := hfa _ (List.mem_of_getElem? (i := 11) rfl) (Nat.le_refl _)
    refine ⟨rfl, ?_⟩
    obtain ⟨A3, c3, hG9, hO9⟩ := hT 11 _ (by kernel_rfl) rfl
    simp only [Reg.sel]
    have hs9 : w6.heap.size ≤ w9.heap.size := hB.size
    have hkn : IntKind.u64.wrap ((k : Int) + (n : Int)) = ((k + n : Nat) : Int) := by rw [IntWalk.u64_in _ (by omega)]; omega
    clear hT hfg hfa hok2 hen2 hmrg hsc hz3 hz4 hz6 hz7 hzw hC7 hB
    gi_wp2_with fail
    refine Flow.wpIn_region_flow (Plain.round ly) (by kernel_rfl) (0) [(9, fun b => b = g)] [(0, fun W => Blk W (w.heap.size) 30 #[.pointer (some ⟨g, 0, none⟩)]), (3, fun W => Blk W (g) 80 (poolCs A3 (usedL (k + n)).length c3 k)), (4, fun W => Blk W (w.heap.size + 1) 3 #[.int .i64 (n : Int)]), (9, fun W => Blk W g 80 (poolCs A3 (usedL (k + n)).length c3 k)), (10, fun W => Blk W (w.heap.size + 3) 22 #[.int .u64 0]), (10, fun W => Blk W (w.heap.size + 4) 27 #[.int .i64 0]), (10, fun W => W.ownsRow w.heap.size 25 2 (.slice A3 (usedL (k + n)).length c3) (usedL (k + n)).length (scells (usedL (k + n)))), (10, fun W => Chg Q w W), (10, fun W => KeepsFrom (w.heap.size + 7) wr W)] (by kernel_rfl) (by kernel_rfl) (Nat.zero_le _) (Flow.nz_cons (fun b _ => Nat.zero_le _) Flow.nz_nil) (Flow.facts_cons (F6.drew) (Flow.kept_blk id) (Flow.fz_cons (Flow.no_follow (by kernel_rfl)) Flow.fz_nil) (Flow.facts_cons (hG9.drew) (Flow.kept_blk id) (Flow.fz_cons (Flow.no_follow (by kernel_rfl)) Flow.fz_nil) (Flow.facts_cons (F7.drew) (Flow.kept_blk id) (Flow.fz_cons (Flow.no_follow (by kernel_rfl)) Flow.fz_nil) (Flow.facts_cons (hG9.drew) (Flow.kept_blk id) (Flow.fz_cons (Flow.no_follow (by kernel_rfl)) Flow.fz_nil) (Flow.facts_cons (F8.drew) (Flow.kept_blk id) (Flow.fz_cons (fun _ => Flow.kept_blk (by first | assumption | (show ¬ _ = _; first | assumption | omega | (simp; omega)) | (show ¬ (_ ≤ _); omega))) Flow.fz_nil) (Flow.facts_cons (F9.drew) (Flow.kept_blk id) (Flow.fz_cons (fun _ => Flow.kept_blk (by first | assumption | (show ¬ _ = _; first | assumption | omega | (simp; omega)) | (show ¬ (_ ≤ _); omega))) Flow.fz_nil) (Flow.facts_cons (hO9.drew) (Flow.kept_own (fun _ _ => id)) (Flow.fz_cons (fun _ => Flow.kept_own (fun b hb e => by have e : b = g := e; have := (hO9.lt b hb).1; omega)) Flow.fz_nil) (Flow.facts_cons (F10.drew) (fun _ _ c h => h.trans (c.mono (fun _ h => h.elim))) (Flow.fz_cons (fun _ => fun _ _ c h => h.trans (c.mono (fun b hb => hb ▸ hQg))) Flow.fz_nil) (Flow.facts_cons ((F11.trans ((KeepsOthers.drew _).from _))) (fun _ _ c h => kf_chg h c (fun _ h => h.elim)) (Flow.fz_cons (fun _ => fun _ _ c h => kf_chg h c (fun b hb => by have hb : b = g := hb; omega)) Flow.fz_nil) Flow.facts_nil))))))))) ?_
    refine Flow.pass_val (.pointer (some ⟨g, 0, none⟩)) (Flow.met_none rfl) (fun a W hH => ?_) ?_
    · have e0 := Flow.see_old 3 hH.sees (by kernel_rfl) (by kernel_rfl) rfl
      have fa0 : (fun W => Blk W (w.heap.size) 30 #[.pointer (some ⟨g, 0, none⟩)]) W := hH.fact _ (List.mem_of_getElem? (i := 0) rfl) rfl
      have cc : World.cell? W ⟨w.heap.size, 0, none⟩ = some (.pointer (some ⟨g, 0, none⟩)) := (fa0.cell 0).trans rfl; go_simp; first | done | rfl
    refine Flow.pass_val (.pointer (some ⟨g, 0, none⟩)) (Flow.met_none rfl) (fun a W hH => ?_) ?_
    · have e0 := Flow.see_new 63 0 hH.sees (by kernel_rfl) (by kernel_rfl) rfl rfl
      go_simp; first | done | rfl
    refine Flow.pass_val (.pointer (some ⟨g, 3, none⟩)) (Flow.met_none rfl) (fun a W hH => ?_) ?_
    · have e0 := Flow.see_new 64 1 hH.sees (by kernel_rfl) (by kernel_rfl) rfl rfl
      go_simp; first | done | rfl
    refine Flow.pass_val (.int .u64 (k : Int)) (Flow.met_none rfl) (fun a W hH => ?_) ?_
    · have e0 := Flow.see_new 65 2 hH.sees (by kernel_rfl) (by kernel_rfl) rfl rfl
      have fa1 : (fun W => Blk W (g) 80 (poolCs A3 (usedL (k + n)).length c3 k)) W := hH.fact _ (List.mem_of_getElem? (i := 1) rfl) rfl
      have cc : World.cell? W ⟨g, 3, none⟩ = some (.int .u64 (k : Int)) := (fa1.cell 3).trans rfl; go_simp; first | done | rfl
    refine Flow.pass_val (.int .i64 (n : Int)) (Flow.met_none rfl) (fun a W hH => ?_) ?_
    · have e0 := Flow.see_old 4 hH.sees (by kernel_rfl) (by kernel_rfl) rfl
      have fa2 : (fun W => Blk W (w.heap.size + 1) 3 #[.int .i64 (n : Int)]) W := hH.fact _ (List.mem_of_getElem? (i := 2) rfl) rfl
      have cc : World.cell? W ⟨w.heap.size + 1, 0, none⟩ = some (.int .i64 (n : Int)) := (fa2.cell 0).trans rfl; go_simp; first | done | rfl
    refine Flow.pass_val (.int .u64 (n : Int)) (Flow.met_none rfl) (fun a W hH => ?_) ?_
    · have e0 := Flow.see_new 67 4 hH.sees (by kernel_rfl) (by kernel_rfl) rfl rfl
      go_simp; first | done | rfl | (rw [a5]; done)
    refine Flow.pass_val (.int .u64 ((k + n : Nat) : Int)) (Flow.met_none rfl) (fun a W hH => ?_) ?_
    · have e0 := Flow.see_new 66 3 hH.sees (by kernel_rfl) (by kernel_rfl) rfl rfl
      have e1 := Flow.see_new 68 5 hH.sees (by kernel_rfl) (by kernel_rfl) rfl rfl
      go_simp; first | done | rfl | (rw [hkn]; done) | (simp; omega) | omega
    refine Flow.pass_val (.pointer (some ⟨g, 0, none⟩)) (Flow.met_none rfl) (fun a W hH => ?_) ?_
    · have e0 := Flow.see_new 63 0 hH.sees (by kernel_rfl) (by kernel_rfl) rfl rfl
      go_simp; first | done | rfl
    refine Flow.pass_val (.pointer (some ⟨g, 3, none⟩)) (Flow.met_none rfl) (fun a W hH => ?_) ?_
    · have e0 := Flow.see_new 70 7 hH.sees (by kernel_rfl) (by kernel_rfl) rfl rfl
      go_simp; first | done | rfl
    refine Flow.pass_gen (fun _ W => Blk W g 80 (poolCs A3 (usedL (k + n)).length c3 (k + n))) (Flow.kept_of (fun _ _ _ c h => h.chg c id) (Flow.kz_cons (Flow.no_follow (by kernel_rfl)) Flow.kz_nil)) (Flow.met_none rfl) (fun a W hH => ?_) ?_
    · have e0 := Flow.see_new 71 8 hH.sees (by kernel_rfl) (by kernel_rfl) rfl rfl
      have e1 := Flow.see_new 69 6 hH.sees (by kernel_rfl) (by kernel_rfl) rfl rfl
      have fa3 : (fun W => Blk W g 80 (poolCs A3 (usedL (k + n)).length c3 k)) W := hH.fact _ (List.mem_of_getElem? (i := 3) rfl) rfl
      refine wp_skip (reg_storeIntG rfl (by kernel_rfl) fa3 e0 e1 (by show 3 < 4; omega)) ?_
      refine ⟨_, rfl, Chg.grown (s_grown _ _ _ _) (by rintro k h; cases h; rfl), ?_⟩
      exact fa3.set_ 3 _
    refine Flow.pass_end [none, none, none, none, none, none, none, none, none, none, none, none, none, none, none, none, none, none, none, none, none, none, none, none, none, none, none, none, none, none, none, none, none, none, none, none, none, none, none, none, none, none, none, none, none, none, none, none, none, none, none, none, none, none, none, none, none, none, none, none, none, none, none, some 63, some 64, some 65, some 66, some 67, some 68, some 69, some 70, some 71, none] (by kernel_rfl) ?_
    intro f gg w9 hB hfa hT hfg
    have F4 : (fun W => Blk W (w.heap.size + 3) 22 #[.int .u64 0]) w9 := hfa _ (List.mem_of_getElem? (i := 4) rfl) (Nat.le_refl _)
    have F5 : (fun W => Blk W (w.heap.size + 4) 27 #[.int .i64 0]) w9 := hfa _ (List.mem_of_getElem? (i := 5) rfl) (Nat.le_refl _)
    have F6 : (fun W => W.ownsRow w.heap.size 25 2 (.slice A3 (usedL (k + n)).length c3) (usedL (k + n)).length (scells (usedL (k + n)))) w9 := hfa _ (List.mem_of_getElem? (i := 6) rfl) (Nat.le_refl _)
    have F7 : (fun W => Chg Q w W) w9 := hfa _ (List.mem_of_getElem? (i := 7) rfl) (Nat.le_refl _)
    have F8 : (fun W => KeepsFrom (w.heap.size + 7) wr W) w9 := hfa _ (List.mem_of_getElem? (i := 8) rfl) (Nat.le_refl _)
    refine ⟨rfl, ?_⟩
    have hG10 := hT 9 _ (by kernel_rfl) rfl
    simp only [Reg.sel]
    clear hT hfg hfa hB
    have d6 : w9.cell? ⟨w.heap.size + 1 + 1 + 1, 0, none⟩ = some (.int .u64 0) := (F4.cell 0).trans rfl
    have f6 := F4.frozen 0
    have G5 := Blk.far (p := ⟨w.heap.size + 3, 0, none⟩) F5 (show w.heap.size + 4 ≠ w.heap.size + 3 by omega) (.int .u64 (sb : Int))
    have d7 : (w9.setCell ⟨w.heap.size + 1 + 1 + 1, 0, none⟩ (.int .u64 (sb : Int))).cell? ⟨w.heap.size + 1 + 1 + 1 + 1, 0, none⟩ = some (.int .i64 0) := (G5.cell 0).trans rfl
    have f7 := G5.frozen 0
    gi_wp2
    have HSB' := HSB.out
    have hCC : Chg (fun b => b = w.heap.size + 3 ∨ b = w.heap.size + 4) w9 ((w9.setCell ⟨w.heap.size + 1 + 1 + 1, 0, none⟩ (.int .u64 (sb : Int))).setCell ⟨w.heap.size + 1 + 1 + 1 + 1, 0, none⟩ (.int .i64 0)) :=
      (Chg.grown (s_grown _ _ _ _) (by rintro j h; cases h; exact .inl rfl)).trans (Chg.grown (s_grown _ _ _ _) (by rintro j h; cases h; exact .inr rfl))
    have X6 := (F4.set_ 0 (.int .u64 (sb : Int))).far (p := ⟨w.heap.size + 4, 0, none⟩) (show w.heap.size + 3 ≠ w.heap.size + 4 by omega) (.int .i64 0)
    have X7 := G5.set_ 0 (.int .i64 0)
    have XG := hG10.chg hCC (fun h => by rcases h with h | h <;> omega)
    have hne : ∀ b, (Value.slice A3 (usedL (k + n)).length c3).ownBlock = some b → ¬ (b = w.heap.size + 3 ∨ b = w.heap.size + 4) := fun b hb h => by
      rcases h with h | h
      · exact own_ne F6 F4 (by decide) hb h
      · exact own_ne F6 F5 (by decide) hb h
    have XO := own_chg F6 hCC hne
    have hWs := F7.size
    have hWs2 := hCC.size
    have hKX := kf_chg F8 hCC (fun b h => by rcases h with h | h <;> omega)
    clear hne
    generalize ((w9.setCell ⟨w.heap.size + 1 + 1 + 1, 0, none⟩ (.int .u64 (sb : Int))).setCell ⟨w.heap.size + 1 + 1 + 1 + 1, 0, none⟩ (.int .i64 0)) = WX at *
    refine ⟨hKX, rfl, ⟨by rw [← HSB']; exact X6, X7, ⟨by omega, ⟨A3, c3, XG, own_baseG XO (Nat.zero_le _), fun b hb => .inr (XO.lt b hb)⟩, .inl hQg, fun b hb => ?_⟩, ?_⟩⟩
    · rcases hb with h | h
      · have := hQl b h; omega
      · exact h.2
    · exact ⟨hCC.os.trans F7.os, hCC.tape.trans F7.tape, hCC.output.trans F7.output, Nat.le_trans hWs hWs2, fun b hb hn2 => (hCC.block b (by omega) (by omega)).trans (F7.block b hb hn2)⟩
  case stop =>
    rintro D c2 pre W hD hpre ⟨rfl, hX⟩ hK
    gi_wp2_with fail
    refine ⟨by simp, .inl ⟨_, _, rfl, run_takeDeferred hK, ?_⟩⟩
    have hX2 := hX.kept (grownBy_putObj' W D (.deferred none)) (fun r e => by cases e; exact ⟨by omega, _, hK, rfl⟩)
    have c6 : (W.putObj D (.deferred none)).cell? ⟨w.heap.size + 1 + 1 + 1, 0, none⟩ = some (.int .u64 ((1073741824 + k * 4096 : Nat) : Int)) := (hX2.b6.cell 0).trans rfl
    have c7 : (W.putObj D (.deferred none)).cell? ⟨w.heap.size + 1 + 1 + 1 + 1, 0, none⟩ = some (.int .i64 0) := (hX2.b7.cell 0).trans rfl
    refine ⟨_, results_cells2 rfl _ _ ⟨w.heap.size + 1 + 1 + 1, 0, none⟩ ⟨w.heap.size + 1 + 1 + 1 + 1, 0, none⟩ rfl rfl c6 c7 (by kernel_rfl) (by kernel_rfl), rfl, hX2.P, hX2.C⟩
end Go.Proofs.YtpellkblaeeopaaGreatDoor
/-
  Walk: frame.New of the pool's span.
-/
namespace Go.Proofs.YtpellkblaeeopaaGreatDoor
open Go.RowKit Go.Shelf

set_option maxRecDepth 100000 in
set_option maxHeartbeats 2000000 in
theorem fnew_any (w : World) : Calls Tryz.prog 6 #[.agg #[.int .u64 1073741824, .int .u64 1048576]] w fun e w' =>
    ∃ g, e = .returned (.pointer (some ⟨g, 0, none⟩)) ∧ PoolW w' g 0 (fun b => w.heap.size ≤ b ∧ b < w'.heap.size) ∧ Below w.heap.size w w' := by
  have hgood := fun W => good_any ⟨1073741824, 1048576⟩ ⟨by decide, by decide⟩ W
  have hlast := fun W => last_any ⟨1073741824, 1048576⟩ ⟨by decide, by decide⟩ W
  rw [show (⟨1073741824, 1048576⟩ : Sp).good = true by decide] at hgood
  rw [show (⟨1073741824, 1048576⟩ : Sp).last = 1074790399 by decide] at hlast
  simp only [Sp.cells] at hgood hlast
  have hup : ∀ W, Calls Tryz.prog 19 #[.int .u64 1073741824, .int .u64 4096] W fun e w' => e = .returned (.tuple #[.int .u64 1073741824, .bool true]) ∧ Below W.heap.size W w' := fun W => by
    have := up_any (n := 1073741824) (a := 4096) (w := W) (hn := by decide) (ha := by decide)
    rwa [show upN 1073741824 4096 = 1073741824 by decide, show upB 1073741824 4096 = true by decide] at this
  go_enter Tryz.func6, Tryz.ntmps6
  have A1 := (Blk.new w 25 #[.int .u64 1073741824, .int .u64 1048576]).alloc (.cells #[.int .u64 0, .int .u64 0, .slice none 0 0, .int .u64 0] 80)
  have P1 := Blk.new (w.alloc (.cells #[.int .u64 1073741824, .int .u64 1048576] 25)) 80 #[.int .u64 0, .int .u64 0, .slice none 0 0, .int .u64 0]
  rw [World.size_alloc] at P1
  have B1 := ((Below.refl _ w).alloc (Nat.le_refl _) (.cells #[.int .u64 1073741824, .int .u64 1048576] 25)).alloc (by simp) (.cells #[.int .u64 0, .int .u64 0, .slice none 0 0, .int .u64 0] 80)
  go_wp2_with fail
  refine (hup _).mono ?_
  rintro e w2 ⟨rfl, hB2⟩
  have A2 := A1.below hB2 A1.lt
  have P2 := P1.below hB2 P1.lt
  have B2 := B1.trans (hB2.mono B1.size)
  have k0 : w2.cell? ⟨w.heap.size, 0, none⟩ = some (.int .u64 1073741824) := (A2.cell 0).trans rfl
  have k1 : w2.cell? ⟨w.heap.size, 1, none⟩ = some (.int .u64 1048576) := (A2.cell 1).trans rfl
  clear hup A1 P1 B1 hB2
  go_wp2_with fail
  refine (hgood _).mono ?_
  rintro e w3 ⟨rfl, hB3⟩
  have A3 := A2.below hB3 A2.lt
  have P3 := P2.below hB3 P2.lt
  have B3 := B2.trans (hB3.mono B2.size)
  have k0' : w3.cell? ⟨w.heap.size, 0, none⟩ = some (.int .u64 1073741824) := (A3.cell 0).trans rfl
  have k1' : w3.cell? ⟨w.heap.size, 1, none⟩ = some (.int .u64 1048576) := (A3.cell 1).trans rfl
  clear hgood A2 P2 B2 hB3 k0 k1
  go_wp2_with fail
  refine (hlast _).mono ?_
  rintro e w4 ⟨rfl, hB4⟩
  have A4 := A3.below hB4 A3.lt
  have P4 := P3.below hB4 P3.lt
  have B4 := B3.trans (hB4.mono B3.size)
  have k0 : w4.cell? ⟨w.heap.size, 0, none⟩ = some (.int .u64 1073741824) := (A4.cell 0).trans rfl
  have k1 : w4.cell? ⟨w.heap.size, 1, none⟩ = some (.int .u64 1048576) := (A4.cell 1).trans rfl
  clear A3 P3 B3 hB4 k0' k1'
  go_wp2_with fail
  refine (hlast _).mono ?_
  rintro e w5 ⟨rfl, hB5⟩
  have P5 := P4.below hB5 P4.lt
  have B5 := B4.trans (hB5.mono B4.size)
  have p0 : w5.cell? ⟨w.heap.size + 1, 0, none⟩ = some (.int .u64 0) := (P5.cell 0).trans rfl
  have f0 := P5.frozen 0
  have P6 := P5.set_ 0 (.int .u64 1073741824)
  have p1 : (w5.setCell ⟨w.heap.size + 1, 0, none⟩ (.int .u64 1073741824)).cell? ⟨w.heap.size + 1, 1, none⟩ = some (.int .u64 0) := (P6.cell 1).trans rfl
  have f1 := P6.frozen 1
  have P7 := P6.set_ 1 (.int .u64 256)
  have hCC : Chg (fun b => b = w.heap.size + 1) w5 ((w5.setCell ⟨w.heap.size + 1, 0, none⟩ (.int .u64 1073741824)).setCell ⟨w.heap.size + 1, 1, none⟩ (.int .u64 256)) :=
    (Chg.grown (s_grown _ _ _ _) (by rintro j h; cases h; rfl)).trans (Chg.grown (s_grown _ _ _ _) (by rintro j h; cases h; rfl))
  have B7 := B5.trans (hCC.below (n := w.heap.size) (fun b hb => by have hb : b = w.heap.size + 1 := hb; omega) B5.size)
  clear hlast A4 P4 B4 hB5 k0 k1
  go_wp2
  go_ret
  have hl := P7.lt
  exact ⟨w.heap.size + 1, rfl, ⟨by omega, ⟨none, 0, P7, World.ownsRow_nil _ _ _ _, fun b hb => by cases hb⟩, ⟨by omega, hl⟩, fun b hb => hb.2⟩, B7⟩
end Go.Proofs.YtpellkblaeeopaaGreatDoor
/-
  Walk: table's builder: frames.
-/
namespace Go.Proofs.YtpellkblaeeopaaGreatDoor
open Go.RowKit Go.Shelf

/-- the builder: memory p, pool g, root and tables -/
def bldCs (p g root : Nat) (mp : Value) : Array Value := #[.pointer (some ⟨p, 0, none⟩), .pointer (some ⟨g, 0, none⟩), .int .u64 (root : Int), mp]
def zSp (k n : Nat) : Sp := ⟨1073741824 + k * 4096, n * 4096⟩
def FramesRet (w : World) (p g k n : Nat) (ram : Sp) (m : Mm) (F Q : Nat → Prop) (N : Nat) (e : Ending) (w' : World) : Prop :=
  e = .returned (.tuple #[.int .u64 ((1073741824 + k * 4096 : Nat) : Int), .int .i64 (zErr ram (zSp k n))]) ∧ ∃ F' Q', PMem w' p ram (zV ram m (zSp k n)) F' N ∧ PoolW w' g (k + n) Q' ∧ Chg (fun b => F b ∨ Q b) w w' ∧
    (∀ b, F b → F' b) ∧ (∀ b, F' b → F b ∨ w.heap.size ≤ b) ∧ (∀ b, Q' b → Q b ∨ w.heap.size ≤ b) ∧ (∀ b, F' b → ¬ Q' b) ∧ w'.heap[p]? = w.heap[p]?
set_option maxRecDepth 100000 in
set_option maxHeartbeats 2000000 in
theorem frames_any (bb p g k n al root : Nat) (mp : Value) (hal : al = 4096 ∨ al = 8192) (hk : (k * 4096) % al = 0) (h1 : 1 ≤ n) (hn : k + n ≤ 255) (ram : Sp) (okr : ram.ok) (hr40 : ram.base + ram.size ≤ 1099511627776) (m : Mm) (F Q : Nat → Prop) (N : Nat) (w : World)
    (hM : PMem w p ram m F N) (hP : PoolW w g k Q) (hFQ : ∀ b, F b → ¬ Q b) (hB : Blk w bb 97 (bldCs p g root mp)) (_hbF : ¬ F bb) (hbQ : ¬ Q bb) :
    Calls Tryz.prog 26 #[.pointer (some ⟨bb, 0, none⟩), .int .i64 (n : Int), .int .u64 (al : Int)] w (FramesRet w p g k n ram m F Q N) := by
  have c0 : w.cell? ⟨bb, 0, none⟩ = some (.pointer (some ⟨p, 0, none⟩)) := (hB.cell 0).trans rfl
  have c1 : w.cell? ⟨bb, 1, none⟩ = some (.pointer (some ⟨g, 0, none⟩)) := (hB.cell 1).trans rfl
  have hrun := run_any g k n al hal hk h1 hn Q w hP
  go_enter Tryz.func26, Tryz.ntmps26
  go_wp2_with fail
  refine hrun.mono ?_
  rintro e w1 ⟨rfl, hP1, hC1⟩
  have hpF : F p := by obtain ⟨bm, D, pg, h⟩ := hM; exact h.fp
  have hM1 : PMem w1 p ram m F N := by obtain ⟨bm, D, pg, h⟩ := hM; exact ⟨bm, D, pg, h.chg hC1 hFQ⟩
  have hB1 := hB.chg hC1 hbQ
  have d0 : w1.cell? ⟨bb, 0, none⟩ = some (.pointer (some ⟨p, 0, none⟩)) := (hB1.cell 0).trans rfl
  have oks : (zSp k n).ok := ⟨by simp only [zSp]; omega, by simp only [zSp]; omega⟩
  have hz := mzero_p p ram okr hr40 m F N (zSp k n) oks w1 hM1
  obtain ⟨sb, hsb⟩ : ∃ sb, sb = 1073741824 + k * 4096 := ⟨_, rfl⟩
  rw [show (zSp k n).cells = #[.int .u64 (sb : Int), .int .u64 ((n : Int) * 4096)] by rw [hsb]; simp [zSp, Sp.cells]] at hz
  have a5 : IntKind.u64.wrap (n : Int) = (n : Int) := IntWalk.u64_in _ (by omega)
  have a6 : IntKind.u64.wrap ((n : Int) * 4096) = (n : Int) * 4096 := IntWalk.u64_in _ (by omega)
  rw [← hsb]
  have HSB := Lib.hid hsb
  clear hrun c0 c1 hsb
  go_wp2_with fail
  refine hz.mono ?_
  rintro e w2 ⟨rfl, ⟨F', hM2, hC2, h3, h4⟩, hpp⟩
  clear hz
  go_wp2
  go_ret2
  have hl1 := hC1.size
  have hF1 : ∀ b, F b → b < w.heap.size := by obtain ⟨bm, D, pg, h⟩ := hM; exact h.flt
  refine ⟨by rw [HSB.out]; rfl, F', _, hM2, hP1.chg hC2 ?_, (hC1.mono (fun b h => .inr h)).trans (hC2.mono (fun b h => .inl h)), h3, fun b hb => ?_, fun b hb => ?_, fun b hb hq => ?_, hpp.trans (hC1.block p (hF1 p hpF) (fun h => hFQ p hpF h))⟩
  · rintro b (h | h) hf
    · exact hFQ b hf h
    · have := hF1 b hf; omega
  · rcases h4 b hb with h | h
    · exact .inl h
    · exact .inr (by omega)
  · rcases hb with h | h
    · exact .inl h
    · exact .inr h.1
  · rcases h4 b hb with h | h
    · rcases hq with h' | h'
      · exact hFQ b h h'
      · have := hF1 b h; omega
    · rcases hq with h' | h'
      · have := hP.lt b h'; omega
      · omega
end Go.Proofs.YtpellkblaeeopaaGreatDoor
/-
  Walk: table's builder: lay.
-/
namespace Go.Proofs.YtpellkblaeeopaaGreatDoor
open Go.RowKit

set_option maxRecDepth 100000 in
set_option maxHeartbeats 2000000 in
theorem lay_any (bb p g root : Nat) (mp : Value) (d : Dc) (k ad x : Nat) (hput : ∀ W, Calls Tryz.prog 95 #[.int .i64 (k : Int), .agg d.cells] W (PutRet W x)) (ram : Sp) (okr : ram.ok) (hr40 : ram.base + ram.size ≤ 1099511627776) (m : Mm) (F : Nat → Prop) (N : Nat)
    (had : ad < 18446744073709551616) (hN : N + 8 < maxLen) (w : World) (hM : PMem w p ram m F N) (hB : Blk w bb 97 (bldCs p g root mp)) :
    Calls Tryz.prog 64 #[.pointer (some ⟨bb, 0, none⟩), .int .u64 (ad : Int), .int .i64 (k : Int), .agg d.cells] w fun e w' => e = .returned (.int .i64 (mputErr ram ad)) ∧ MAfterP w w' p ram (putV ram m ad x) F (N + 8) := by
  have e0 : Ext w (w.alloc (.cells d.cells 108)) := (Ext.refl w).alloc _
  have hM1 := hM.keep e0.size (fun b _ hl => e0.block b hl)
  have hB1 := hB.ext e0
  simp only [Dc.cells] at hput hM1 hB1 e0 ⊢
  go_enter Tryz.func64, Tryz.ntmps64
  go_wp2_with fail
  refine (hput _).mono ?_
  rintro e w1 ⟨rfl, hb1⟩
  have hM2 := hM1.below hb1 (Nat.le_refl _)
  have hB2 := hB1.below hb1 hB1.lt
  have c0 : w1.cell? ⟨bb, 0, none⟩ = some (.pointer (some ⟨p, 0, none⟩)) := (hB2.cell 0).trans rfl
  have hpl : p < w.heap.size := by obtain ⟨_, _, _, h⟩ := hM; exact h.blk.lt
  have hp := mput_p p ram okr hr40 m F N ad x had hN w1 hM2
  have E : Ext w w1 := e0.trans (Chg.of_below (Z := fun _ => False) hb1 (fun b h1 h2 => absurd h2 (by omega))).ext
  clear hM1 hB1 hb1 e0 hM hB hput
  go_wp2_with fail
  refine hp.mono ?_
  rintro e w2 ⟨rfl, ⟨F', hM3, hC, h1, h2⟩, hpp⟩
  go_wp2
  go_ret
  exact ⟨rfl, ⟨F', hM3, (Chg.of_ext E).trans hC, h1, fun b hb => by rcases h2 b hb with h | h; exact .inl h; exact .inr (Nat.le_trans E.size h)⟩, hpp.trans (E.block p hpl)⟩
end Go.Proofs.YtpellkblaeeopaaGreatDoor
