/-
  Walks: slices.AppendSeq, Collect, Sorted at uint64, over the keys of the pages.
-/
import Derived.Test.YtjfmgoickokbjaaSrtL
namespace Go.Proofs.Ytjfmgoickokbjaa
open Go.RowKit Go.Shelf

attribute [local go_sem] Oper.semAt_some

section
variable {F : Fence} {n : Nat} {P : Program} {ops : Array Oper} {rest : List Oper} {a : Act} {w : World} {Q : Exit → Act → World → Prop} {dst : Option Tmp} {ty : TypeId} {pos : String} {aft : Array Edge} {gd : Option (Nat × Bool)}
theorem sIn_append (t : TypeId) {x c : Operand} (h : wpListIn F n P ops Q (⟨dst, .call { callee := .builtin .append, args := #[x, c], argTypes := #[t, t] }, ty, pos, aft, gd⟩ :: rest) a w) :
    wpListIn F n P ops Q (⟨dst, .call { callee := .builtin .append, args := #[x, c], argTypes := #[t, t] }, ty, pos, aft, gd⟩ :: rest) a w := h
end
theorem own_isSlice {w : World} {base n : Nat} {e : TypeId} {v : Value} {xs : List Value} (h : w.ownsRow base e 1 v n xs) : ∃ A c, v = .slice A n c := by
  rcases h.2 with ⟨rfl, h2⟩ | ⟨g, cap, cur, rfl, _⟩
  · have h1 := h.1
    have : n = 0 := by
      first
      | omega
      | (rw [h2] at h1; simpa using h1.symm)
      | (have := h.1; simp_all)
    exact ⟨none, 0, by rw [this]⟩
  · exact ⟨_, _, rfl⟩
theorem own_keptS {w w' : World} {base size n : Nat} {e : TypeId} {v : Value} {xs : List Value} {row : Option Nat} (h : w.ownsRow base e size v n xs) (hg : w.grownBy w' row) (hr : ∀ r, row = some r → ∃ o : Obj, w.heap[r]? = some o ∧ o.isCells = false) : w'.ownsRow base e size v n xs :=
  own_chg h (Chg.grown (Z := fun k => row = some k) hg (fun k e => e)) fun k hv hz => by
    obtain ⟨o, ho, hc⟩ := hr k hz
    rcases h.2 with ⟨rfl, _⟩ | ⟨g, cap, cur, rfl, _, hh, _⟩
    · cases hv
    · cases hv
      rw [hh] at ho
      cases ho; cases hc
theorem blk_keptS {w w' : World} {g : Nat} {t : TypeId} {cs : Array Value} {row : Option Nat} (h : Blk w g t cs) (hg : w.grownBy w' row) (hr : ∀ r, row = some r → ∃ o : Obj, w.heap[r]? = some o ∧ o.isCells = false) : Blk w' g t cs :=
  h.grown hg (fun e => by
    obtain ⟨o, h1, h2⟩ := hr g e.symm
    rw [show w.heap[g]? = some (.cells cs t (0, 0)) from h] at h1; cases h1; cases h2)
theorem own_cellsS {w : World} {base size n : Nat} {e : TypeId} {v : Value} {xs : List Value} (h : w.ownsRow base e size v n xs) {b : Nat} {o : Obj} (hb : v.ownBlock = some b) (ho : w.heap[b]? = some o) : o.isCells = true := by
  rcases h.2 with ⟨rfl, _⟩ | ⟨g, cap, cur, rfl, _, hh, _⟩
  · cases hb
  · cases hb
    rw [hh] at ho
    cases ho; rfl
theorem elU64 : Elem Try.prog 72 22 (.int .u64 0) 1 8 := Elem.of (by kernel_rfl) (by kernel_rfl) rfl (by omega)
def kcells (ss : List Ku) : List Value := ucells (ss.map (·.1))
theorem kcells_snoc (ss : List Ku) (x : Ku) : kcells (ss ++ [x]) = kcells ss ++ [.int .u64 ((x.1 : Nat) : Int)] := by simp [kcells, ucells]

/-- the caller's own cells between two rounds -/
structure ApI (w : World) (pre : List Ku) (W : World) : Prop where
  S : ∃ A c, Blk W w.heap.size 72 #[.slice A pre.length c] ∧ W.ownsRow (w.heap.size + 1) 22 1 (.slice A pre.length c) pre.length (kcells pre)
  B : Below w.heap.size w W

set_option maxRecDepth 100000 in
set_option maxHeartbeats 4000000 in
theorem appendSeq_any (Bm b nn : Nat) (D0 : DataW Unit) (w : World) (hm : Blk w Bm MT #[.map (some b)]) (hown : w.ownsMap Try.prog 22 pgE b nn D0) (hnn : nn ≤ 1000000) :
    Calls Try.prog 68 #[.slice none 0 0, .func (.func 64) #[] #[.pointer (some ⟨Bm, 0, none⟩)]] w fun e w' =>
      ∃ ss v, AllU D0 ss ∧ e = .returned v ∧ w'.ownsRow (w.heap.size + 1) 22 1 v ss.length (kcells ss) ∧ Below w.heap.size w w' := by
  obtain ⟨W1, hW1⟩ : ∃ W1, w.alloc (.cells #[.slice none 0 0] 72) = W1 := ⟨_, rfl⟩
  have hs1 : W1.heap.size = w.heap.size + 1 := by rw [← hW1]; simp
  have hb1 : Blk W1 w.heap.size 72 #[.slice none 0 0] := by rw [← hW1]; exact Blk.new _ _ _
  have hB1 : Below w.heap.size w W1 := by rw [← hW1]; exact (Below.refl _ _).alloc (Nat.le_refl _) _
  have hstop := keysU_stops Bm b nn D0 W1 (hm.below hB1 hm.lt) (by
    obtain ⟨es, clock, h1, h2⟩ := hown
    exact ⟨es, clock, (hB1.block b (Array.getElem?_eq_some_iff.1 h1).1).trans h1, h2⟩) hnn
  refine (callsIn_wide (n := 6)).1 ?_
  refine callsIn_of_wp_marks Try.func68 rfl trivial ?_ rfl
  simp only [Try.ntmps68, List.size_toArray, List.length_cons, List.length_nil, Nat.reduceAdd, Nat.reduceSub, Array.replicate_succ, Array.replicate_zero, List.push_toArray, List.append_toArray, List.nil_append, List.cons_append]
  gi_wp2_with fail
  try rw [hW1]
  clear hW1 hown
  refine wpIn_rangeFunc_ownF rfl (by omega) (gf := 64) (lb := #[.pointer (some ⟨Bm, 0, none⟩)]) rfl trivial (enters_of Try.func64 (by kernel_rfl) rfl)
    hstop walksK_t (walksK_b (w := W1)) (Below.refl _ _) (fun _ => rfl)
    (ApI w) (fun _ _ _ => False)
    (fun s A B row hs hg hr => by
      obtain ⟨⟨A1, c1, h1, h2⟩, h3⟩ := hs
      have hr2 : ∀ r, row = some r → ∃ o : Obj, A.heap[r]? = some o ∧ o.isCells = false := fun r e => (hr r e).2
      exact ⟨⟨A1, c1, blk_keptS h1 hg hr2, own_keptS h2 hg hr2⟩, h3.grown hg h3.size (fun r e => by have := (hr r e).1; omega)⟩)
    (fun _ _ _ _ _ hs _ _ => hs)
    ⟨⟨none, 0, hb1, World.ownsRow_nil _ _ _ _⟩, hB1⟩
    (fun x => { tmps := #[.slice none 0 0, .func (.func 64) #[] #[.pointer (some ⟨Bm, 0, none⟩)], .pointer (some ⟨w.heap.size, 0, none⟩), undef, .slice none 0 0, .int .u64 ((x.1 : Nat) : Int), .func (.func 64) #[] #[.pointer (some ⟨Bm, 0, none⟩)], .int .u64 ((x.1 : Nat) : Int), undef, undef, undef, undef, undef], defers := [] }) ?assign ?body ?done ?stop
  case assign =>
    intro l x W K hK
    gi_wp2
    exact hK
  case body =>
    rintro l pre x W ⟨⟨A, c, hS, hO⟩, hB⟩ hlen
    have hcell : W.cell? ⟨w.heap.size, 0, none⟩ = some (.slice A pre.length c) := (hS.cell 0).trans rfl
    obtain ⟨i, hi2, hi3, hi4, hi5⟩ := elU64.info
    have hszW := hS.lt
    have hO1 := own_chg hO (Chg.of_ext ((Ext.refl W).alloc (.cells #[.int .u64 ((x.1 : Nat) : Int)] 22))) (fun _ _ => id)
    have hS1 := hS.alloc (.cells #[.int .u64 ((x.1 : Nat) : Int)] 22)
    have hN1 := Blk.new W 22 #[.int .u64 ((x.1 : Nat) : Int)]
    have hob : ∀ r, (Value.slice A pre.length c).ownBlock = some r → w.heap.size + 1 ≤ r ∧ r < W.heap.size := fun r hr => hO.lt r hr
    have hB1' : Below w.heap.size w (W.alloc (.cells #[.int .u64 ((x.1 : Nat) : Int)] 22)) := hB.alloc hB.size _
    gi_wp2_with ((with_reducible refine sIn_append 72 ?_); refine wpListIn_append_own _ rfl _ _ _ rfl (w.heap.size + 1) 22 i (.int .u64 0) 1 8 elU64.under hi2 hi3 hi4 hi5 rfl (by omega) (.slice A pre.length c) pre.length (kcells pre) rfl hO1 ⟨W.heap.size, 0, none⟩ 1 1 [.int .u64 ((x.1 : Nat) : Int)] rfl rfl (fun j u hj => by match j, hj with | 0, hj => exact (hN1.cell 0).trans hj | _ + 1, hj => cases hj) (fun u hu => by rw [List.mem_singleton.1 hu]; rfl) (by simp only [maxLen]; omega) (by omega) (by simp; omega) ?_; intro v' w3 hO3 hg3 hnil; obtain ⟨A', c', rfl⟩ := own_isSlice hO3; have hS3 := hS1.grown hg3 (fun e => by have := (hob _ e.symm).1; omega); have hcell3 : w3.cell? ⟨w.heap.size, 0, none⟩ = some (.slice A pre.length c) := (hS3.cell 0).trans rfl; have hfr3 := hS3.frozen 0)
    have hob3 : ∀ r, (Value.slice A' (pre.length + 1) c').ownBlock = some r → w.heap.size + 1 ≤ r := fun r hr => (hO3.lt r hr).1
    have hK : KeepsOthers W (w3.setCell ⟨w.heap.size, 0, none⟩ (.slice A' (pre.length + 1) c')) :=
      ((KeepsOthers.alloc W _).trans (KeepsOthers.of_grownBy hg3 (fun j o hj ho => own_cellsS hO1 hj ho))).trans (KeepsOthers.setCell _ _ _)
    have hB3 : Below w.heap.size w w3 := hB1'.grown hg3 hB1'.size (fun r e => by have := (hob r e).1; omega)
    have hlen1 : (pre ++ [x]).length = pre.length + 1 := by simp
    refine ⟨hK, hK.walks, ⟨A', c', ?_, ?_⟩, grown_below hB3 (s_grown _ _ _ _) hB3.size (Nat.le_refl _)⟩
    · rw [hlen1]; exact hS3.set_ 0 _
    · rw [hlen1, kcells_snoc]
      exact own_chg hO3 (Chg.grown (Z := fun b => b = w.heap.size) (s_grown _ _ _ _) (by rintro j h; cases h; rfl)) (fun r hr e => by have := hob3 r hr; omega)
  case done =>
    rintro D ys W hD hS ⟨⟨A, c, hSb, hO⟩, hB⟩ hK
    have hcell : W.cell? ⟨w.heap.size, 0, none⟩ = some (.slice A ys.length c) := (hSb.cell 0).trans rfl
    have hg4 := grownBy_putObj' W D (.deferred none)
    have hO4 := own_keptS hO hg4 (fun r e => by cases e; exact ⟨_, hK, rfl⟩)
    have hB4 : Below w.heap.size w (W.putObj D (.deferred none)) := grown_below hB hg4 hB.size (by omega)
    gi_wp2
    refine ⟨by simp, .inl ⟨_, _, rfl, run_takeDeferred hK, ?_⟩⟩
    exact ⟨_, results_tmp rfl _ _ _, ys, .slice A ys.length c, hS, rfl, hO4, hB4⟩
  case stop =>
    rintro D c pre W _ _ h _
    exact h.elim

set_option maxRecDepth 100000 in
set_option maxHeartbeats 1000000 in
theorem collect_any (Bm b nn : Nat) (D0 : DataW Unit) (w : World) (hm : Blk w Bm MT #[.map (some b)]) (hown : w.ownsMap Try.prog 22 pgE b nn D0) (hnn : nn ≤ 1000000) :
    Calls Try.prog 62 #[.func (.func 64) #[] #[.pointer (some ⟨Bm, 0, none⟩)]] w fun e w' =>
      ∃ ss v, AllU D0 ss ∧ e = .returned v ∧ w'.ownsRow (w.heap.size + 1) 22 1 v ss.length (kcells ss) ∧ Below w.heap.size w w' := by
  have hc := appendSeq_any Bm b nn D0 w hm hown hnn
  go_enter Try.func62, Try.ntmps62
  go_wp2_with fail
  refine Calls.mono hc ?_
  rintro e W1 ⟨ss, v, hS, rfl, hO, hB⟩
  obtain ⟨A, c, rfl⟩ := own_isSlice hO
  clear hc hown
  go_wp2
  go_ret
  exact ⟨ss, _, hS, rfl, hO, hB⟩
theorem nr_rd {w : World} {g : Nat} {d : Array Nat} {R : List Value} (h : NR w g d R) : Rd w w.heap.size 1 (some ⟨g, 0, none⟩) d.toList.length (ucells d.toList) := by
  refine ⟨by rw [ucells_length]; simp, fun k v hv => ⟨_, rfl, Blk.lt h, ?_⟩⟩
  have h2 : Blk w g 22 (ucells d.toList ++ R).toArray := h
  have hk : k < (ucells d.toList).length := (List.getElem?_eq_some_iff.1 hv).1
  rw [show (Addr.mk g 0 none).add k = ⟨g, k, none⟩ by (rw [Addr.add]; split <;> simp_all), h2.cell, List.getElem?_toArray, List.getElem?_append_left hk, hv]
/-- all keys, in order -/
def SortedU (D0 : DataW Unit) (xs : List Nat) : Prop := xs.Pairwise (fun x y => x < y) ∧ (∀ x ∈ xs, x < 18446744073709551616) ∧ ∀ k : Ku, Maps.has D0 (litU k.1) = true → k.1 ∈ xs
theorem sortedU_of {D0 : DataW Unit} {ss : List Ku} {d : Array Nat} (hS : AllU D0 ss) (hp : Sort.PermIn 0 ss.length (ss.map (·.1)).toArray d) (hs : Sort.SortedIn ltN 0 ss.length d) : SortedU D0 d.toList ∧ d.toList.length = ss.length := by
  have hsz : d.size = ss.length := by rw [hp.1]; simp
  have hperm : d.toList.Perm (ss.map (·.1)) := by
    have h1 := hp.2.2
    have e1 : d.extract 0 ss.length = d := by rw [← hsz]; simp
    have e2 : (ss.map (·.1)).toArray.extract 0 ss.length = (ss.map (·.1)).toArray := by
      have : ss.length = (ss.map (·.1)).toArray.size := by simp
      rw [this]; simp [List.take_of_length_le]
    rw [e1, e2] at h1
    simpa using h1
  have hnd : d.toList.Nodup := hperm.nodup_iff.2 (by
    rw [List.Nodup, List.pairwise_map]
    exact hS.1.imp fun h e => h (Subtype.ext e))
  refine ⟨⟨?_, fun x hx => ?_, fun k hk => ?_⟩, by simp [hsz]⟩
  · rw [List.pairwise_iff_getElem]
    intro i j hi hj hij
    have hi' : i < d.size := by simpa using hi
    have hj' : j < d.size := by simpa using hj
    have h1 := hs i j (by omega) hij (by omega)
    have h2 : d.toList[i] ≠ d.toList[j] := by
      have := (List.pairwise_iff_getElem.1 hnd) i j hi hj hij
      exact this
    simp only [ltN, decide_eq_false_iff_not] at h1
    simp only [Array.getElem_toList] at h2 ⊢
    rw [getElem!_pos d i hi', getElem!_pos d j hj'] at h1
    omega
  · have := hperm.mem_iff.1 hx
    obtain ⟨k, _, rfl⟩ := List.mem_map.1 this
    exact k.2
  · exact hperm.mem_iff.2 (List.mem_map.2 ⟨k, hS.2.1 k hk, rfl⟩)

set_option maxRecDepth 100000 in
set_option maxHeartbeats 1000000 in
theorem sorted_any (Bm b nn : Nat) (D0 : DataW Unit) (w : World) (hm : Blk w Bm MT #[.map (some b)]) (hown : w.ownsMap Try.prog 22 pgE b nn D0) (hnn : nn ≤ 1000000) :
    Calls Try.prog 51 #[.func (.func 64) #[] #[.pointer (some ⟨Bm, 0, none⟩)]] w fun e w' =>
      ∃ xs A c, SortedU D0 xs ∧ e = .returned (.slice A xs.length c) ∧ Rd w' w'.heap.size 1 A xs.length (ucells xs) ∧ Below w.heap.size w w' ∧ xs.length ≤ 1000000 := by
  have hc := collect_any Bm b nn D0 w hm hown hnn
  go_enter Try.func51, Try.ntmps51
  go_wp2_with fail
  refine Calls.mono hc ?_
  rintro e W1 ⟨ss, v, hS, rfl, hO, hB⟩
  clear hc hown
  by_cases h0 : ss.length = 0
  · obtain ⟨A, c, rfl⟩ := own_isSlice hO
    obtain rfl := List.length_eq_zero_iff.1 h0
    have hcall := sortNil_walk A c W1
    clear hO
    go_wp2_with fail
    refine Calls.mono hcall ?_
    rintro e W2 ⟨rfl, rfl⟩
    clear hcall
    go_wp2
    go_ret
    exact ⟨[], A, c, ⟨List.Pairwise.nil, (fun x hx => absurd hx (by simp)), fun k hk => absurd (hS.2.1 k hk) (by simp)⟩, rfl, Rd.nil _ _ _ _, hB, by simp⟩
  · obtain ⟨g, cap, R, rfl, hg, hN⟩ : ∃ g cap R, v = .slice (some ⟨g, 0, none⟩) ss.length cap ∧ w.heap.size + 1 ≤ g ∧ NR W1 g (ss.map (·.1)).toArray R := by
      rcases hO.2 with ⟨_, h2⟩ | ⟨g, cap, cur, hv, h1, h2, _, _, _, h6⟩
      · exact absurd h2 h0
      · refine ⟨g, cap, cur.toList.drop (ss.length * 1), hv, h1, ?_⟩
        show W1.heap[g]? = some (.cells _ _ _)
        rw [h2, show ucells (ss.map (·.1)).toArray.toList = cur.toList.take (ss.length * 1) from h6.symm, List.take_append_drop]
    have hcall := sort_walk g R (ss.map (·.1)).toArray ss.length cap (by simp) (by omega) hS.2.2 W1 hN
    clear hO
    go_wp2_with fail
    refine Calls.mono hcall ?_
    rintro e W2 ⟨rfl, d, ⟨hp, hs⟩, hN2, hC⟩
    obtain ⟨hso, hl⟩ := sortedU_of hS hp hs
    have hlt := Blk.lt hN2
    have hrd := nr_rd hN2
    have hB2 := hB.trans (Chg.below hC (n := w.heap.size) (fun k e => by have e2 : k = g := e; omega) hB.size)
    clear hcall hp hs hN hN2
    go_wp2
    go_ret
    exact ⟨d.toList, some ⟨g, 0, none⟩, cap, hso, by rw [hl]; rfl, hrd, hB2, by rw [hl]; exact hS.2.2⟩
end Go.Proofs.Ytjfmgoickokbjaa
