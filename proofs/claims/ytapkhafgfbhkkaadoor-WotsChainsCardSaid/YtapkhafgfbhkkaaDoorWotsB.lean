/-
  Walk: wots.Digits: the row of the digits.
-/
import Derived.Test.YtapkhafgfbhkkaaDoorWotsA
import Derived.Test.YtapkhafgfbhkkaaDoorStore2
namespace Go.Proofs.YtapkhafgfbhkkaaDoor
open Go.RowKit Go.Shelf

attribute [local go_sem] Oper.semAt_some

def icells (l : List Nat) : List Value := l.map fun (n : Nat) => Value.int .i64 (n : Int)
theorem icells_length (l : List Nat) : (icells l).length = l.length := by simp [icells]
theorem icells_set (l : List Nat) (i x : Nat) : (icells l).toArray.setIfInBounds i (.int .i64 (x : Int)) = (icells (l.set i x)).toArray := by simp [icells, List.map_set]
theorem icells_one (l : List Nat) : ∀ u ∈ icells l, u.oneCell' = true := by
  intro u hu; simp only [icells, List.mem_map] at hu; obtain ⟨c, _, rfl⟩ := hu; rfl
theorem icells_zero (n : Nat) : (icells (List.replicate n 0)).toArray = Array.replicate n (.int .i64 0) := by simp [icells]
def zeros67 : List Nat := List.replicate 67 0
def rowL (pre : List (Nat × Nat)) : List Nat := pre.foldl (fun r p => r.set (p.1 % 67) (p.2 % 16)) zeros67
theorem rowL_snoc (pre : List (Nat × Nat)) (x : Nat × Nat) : rowL (pre ++ [x]) = (rowL pre).set (x.1 % 67) (x.2 % 16) := by simp [rowL]
theorem foldl_set_length (pre : List (Nat × Nat)) : ∀ r : List Nat, (pre.foldl (fun r p => r.set (p.1 % 67) (p.2 % 16)) r).length = r.length := by
  induction pre with
  | nil => intro r; rfl
  | cons x pre ih => intro r; simp [ih]
theorem rowL_length (pre : List (Nat × Nat)) : (rowL pre).length = 67 := by unfold rowL; rw [foldl_set_length]; simp [zeros67]
def wdigs (m : List UInt8) : List Nat := upto (digAll m) 67
theorem wdigs_length67 (m : List UInt8) : (wdigs m).length = 67 := upto_length _ _
theorem rowL_upto (m : List UInt8) : ∀ k, k ≤ 67 → rowL (upto (dpair m) k) = upto (digAll m) k ++ List.replicate (67 - k) 0
  | 0, _ => by simp [rowL, upto, zeros67]
  | k + 1, h => by
    rw [upto_succ, rowL_snoc, rowL_upto m k (by omega), upto_succ]
    have e : 67 - k = (67 - (k + 1)) + 1 := by omega
    rw [e, List.replicate_succ]
    simp only [dpair, Nat.mod_eq_of_lt (show k < 67 by omega), Nat.mod_eq_of_lt (digAll_lt m k)]
    rw [List.set_append_right _ _ (by rw [upto_length]; omega)]
    simp [upto_length]
theorem rowL_all (m : List UInt8) : rowL (upto (dpair m) 67) = wdigs m := by rw [rowL_upto m 67 (Nat.le_refl _)]; simp [wdigs]

section
variable {F : Fence} {n : Nat} {P : Program} {ops : Array Oper} {rest : List Oper} {o : Oper} {a : Act} {Q : Exit → Act → World → Prop}
theorem wpListIn_loadAll (w : World) (hgd : o.guard = none) (ty : TypeId) (x : Operand) (ho : o.op = .load ty x) (g : Nat) (te : TypeId) (cells : Array Value) (hb : Blk w g te cells) (d : TypeDesc)
    (hx : a.eval x = .pointer (some ⟨g, 0, none⟩)) (hu : P.underlying ty = some d) (hd : (match d with | .struct _ | .array _ _ => true | _ => false) = true) (hi : (P.info? ty).map (·.size) = some cells.size)
    (h : wpListIn F n P ops Q rest (a.put o.dst (.agg cells)) w) : wpListIn F n P ops Q (o :: rest) a w := by
  refine wpListIn_plain hgd fun K hK => ?_
  unfold Oper.wpIn
  refine ⟨?_, ?_⟩
  · simp [Oper.about, ho]
  · rw [Oper.semAt_plain F _ _ (by rw [ho]; intro c hc'; cases hc')]
    unfold execOp
    simp only [ho, hx, Instr.loadAt, Instr.sureAddr, Sem.run_bind, Sem.run_pure, Result.andThen_ok, run_loadVar_row w g te ty cells (0, 0) d hb hu hd hi]
    exact hK _ _ h
theorem wpListIn_storeAll (w : World) (hgd : o.guard = none) (ty : TypeId) (x y : Operand) (ho : o.op = .store ty x y) (g : Nat) (te : TypeId) (cur cells : Array Value) (hb : Blk w g te cur)
    (hx : a.eval x = .pointer (some ⟨g, 0, none⟩)) (hy : a.eval y = .agg cells) (hfit : cells.size = cur.size) (hi : (P.info? ty).map (·.size) = some cells.size) (h1 : ∀ v ∈ cells.toList, v.oneCell' = true)
    (h : ∀ w', Blk w' g te cells → w.grownBy w' (some g) → w'.heap.size = w.heap.size → wpListIn F n P ops Q rest (a.put o.dst undef) w') : wpListIn F n P ops Q (o :: rest) a w := by
  refine wpListIn_plain hgd fun K hK => ?_
  obtain ⟨h2, h3, h4⟩ := Blk.setCells cells.toList 0 w cur hb (by simp; omega)
  rw [splice_all _ _ (by simpa using hfit)] at h2
  unfold Oper.wpIn
  refine ⟨?_, ?_⟩
  · simp [Oper.about, ho]
  · rw [Oper.semAt_plain F _ _ (by rw [ho]; intro c hc'; cases hc')]
    unfold execOp
    simp only [ho, hx, hy, Instr.storeAt, Instr.sureAddr, Sem.run_bind, Sem.run_pure, Result.andThen_ok, run_storeVar_mid w g 0 ty cells (hb.there 0 cells.size (by omega)) hi (by rw [Array.all_eq_true]; intro i hi; exact h1 _ (by simp))]
    exact hK _ _ (h _ h2 h3 h4)
end

theorem Blk.kept {w w' : World} {g : Nat} {t : TypeId} {cs : Array Value} {row : Option Nat} (h : Blk w g t cs) (hg : w.grownBy w' row) (hr : ∀ r, row = some r → ∃ o : Obj, w.heap[r]? = some o ∧ o.isCells = false) : Blk w' g t cs :=
  h.grown hg (fun e => by
    obtain ⟨o, h1, h2⟩ := hr g e.symm
    rw [h] at h1; cases h1; simp [Obj.isCells] at h2)

theorem zero67 (w : World) : (zeroValue 54).run Tryd.prog w = .ok (.agg (icells zeros67).toArray) w := by rw [zeros67, icells_zero]; kernel_rfl
attribute [go_sem] zero67

set_option maxHeartbeats 1000000 in
theorem mdigits_in (F : Fence) (n : Nat) (h8 : F.fn 64) (hro : F.round = none) (cs : Array Value) (w : World) :
    CallsIn F n Tryd.prog 64 #[.agg cs] w fun e w' => e = .returned (.func (.func 72) #[] #[.pointer (some ⟨w.heap.size, 0, none⟩)]) ∧ w' = w.alloc (.cells cs 27) := by
  refine callsIn_of_wp Tryd.func64 rfl h8 ?_ hro
  simp only [Tryd.ntmps64, List.size_toArray, List.length_cons, List.length_nil, Nat.reduceAdd, Nat.reduceSub, Array.replicate_succ, Array.replicate_zero, List.push_toArray, List.append_toArray, List.nil_append, List.cons_append]
  gi_wp2
  go_ret
  exact ⟨rfl, rfl⟩

set_option maxRecDepth 100000 in
set_option maxHeartbeats 2000000 in
theorem mDigits_any (m : List UInt8) (hm : m.length = 32) (w : World) :
    Calls Tryd.prog 49 #[.agg (bcells m).toArray] w fun e w' => e = .returned (.agg (icells (wdigs m)).toArray) ∧ Below w.heap.size w w' := by
  refine (callsIn_wide (n := 6)).1 ?_
  refine callsIn_of_wp_marks Tryd.func49 rfl trivial ?_ rfl
  simp only [Tryd.ntmps49, List.size_toArray, List.length_cons, List.length_nil, Nat.reduceAdd, Nat.reduceSub, Array.replicate_succ, Array.replicate_zero, List.push_toArray, List.append_toArray, List.nil_append, List.cons_append]
  gi_wp2_with (refine wpListIn_loadAll _ rfl 27 _ rfl w.heap.size 27 (bcells m).toArray ((((Blk.new w 27 (bcells m).toArray).alloc _).alloc _)) _ rfl Tryd.underlying27 rfl (by rw [List.size_toArray, bcells_length, hm]; kernel_rfl) ?_)
  refine ⟨trivial, (mdigits_in Fence.wide 5 trivial rfl _ _).mono ?_⟩
  rintro e w' ⟨rfl, rfl⟩
  try rw [show Tryd.zeroCells54 = (icells zeros67).toArray from by kernel_rfl]
  obtain ⟨W, hW⟩ : ∃ W, W = ((w.alloc (.cells (bcells m).toArray 27)).alloc (.cells (icells zeros67).toArray 54)).alloc (.cells (icells zeros67).toArray 54) := ⟨_, rfl⟩
  have hr0 : Blk W (w.heap.size + 1) 54 (icells zeros67).toArray := by
    rw [hW]; have := (Blk.new (w.alloc (.cells (bcells m).toArray 27)) 54 (icells zeros67).toArray).alloc (.cells (icells zeros67).toArray 54)
    rwa [World.size_alloc] at this
  have ho0 : Blk W (w.heap.size + 2) 54 (icells (rowL [])).toArray := by
    rw [hW]; have := Blk.new ((w.alloc (.cells (bcells m).toArray 27)).alloc (.cells (icells zeros67).toArray 54)) 54 (icells zeros67).toArray
    rwa [World.size_alloc, World.size_alloc] at this
  have hs : W.heap.size = w.heap.size + 3 := by rw [hW]; simp
  have hB : Below w.heap.size w W := by rw [hW]; exact (((Below.refl _ w).alloc (Nat.le_refl _) _).alloc (by simp) _).alloc (by simp; omega) _
  rw [← hW]
  clear hW
  gi_wp2_with fail
  obtain ⟨W1, hW1⟩ : ∃ W1, W1 = W.alloc (.cells (bcells m).toArray 27) := ⟨_, rfl⟩
  have hm1 : Blk W1 (w.heap.size + 3) 27 (bcells m).toArray := by rw [hW1, ← hs]; exact Blk.new _ _ _
  have hr1 : Blk W1 (w.heap.size + 1) 54 (icells zeros67).toArray := by rw [hW1]; exact hr0.alloc _
  have ho1 : Blk W1 (w.heap.size + 2) 54 (icells (rowL [])).toArray := by rw [hW1]; exact ho0.alloc _
  have hs1 : W1.heap.size = w.heap.size + 4 := by rw [hW1]; simp [hs]
  have hB1 : Below w.heap.size w W1 := by rw [hW1]; exact hB.alloc (by omega) _
  rw [← hW1]
  clear hW1 hr0 ho0 hs hB
  refine wpIn_rangeFunc_ownF rfl (by omega) (gf := 72) (lb := #[.pointer (some ⟨w.heap.size + 3, 0, none⟩)]) rfl trivial (enters_of Tryd.func72 (by kernel_rfl) rfl)
    (digits_stops Fence.wide 5 trivial rfl (by omega) (w.heap.size + 3) m hm W1 hm1) (fun h k => k.trans h) (fun W l o o' hl h _ _ => World.putObj_heap_other (by omega)) (Below.refl _ _) (fun _ => rfl)
    (fun pre W => (Blk W (w.heap.size + 1) 54 (icells zeros67).toArray ∧ Blk W (w.heap.size + 2) 54 (icells (rowL pre)).toArray) ∧ Below w.heap.size w W)
    (fun _ _ _ => False)
    (OwnFrom.and (Own.from (fun s A B row hs hg hr => ⟨hs.1.kept hg hr, hs.2.kept hg hr⟩) _) (ownFrom_below (Nat.le_refl _) (by omega)))
    (fun _ _ _ _ _ hs _ _ => hs)
    ⟨⟨hr1, ho1⟩, hB1⟩
    (fun x => { tmps := #[.agg (bcells m).toArray, .pointer (some ⟨w.heap.size, 0, none⟩), .pointer (some ⟨w.heap.size + 1, 0, none⟩), .pointer (some ⟨w.heap.size + 1 + 1, 0, none⟩), .int .i64 (x.1 % 67 : Nat), .int .i64 (x.2 % 16 : Nat), .agg (bcells m).toArray, .func (.func 72) #[] #[.pointer (some ⟨w.heap.size + 3, 0, none⟩)], .int .i64 (x.1 % 67 : Nat), .int .i64 (x.2 % 16 : Nat), undef, undef, undef, undef], defers := [] }) ?assign ?body ?done ?stop
  case assign =>
    intro l x W K hK
    gi_wp2
    exact hK
  case body =>
    rintro l pre x W ⟨⟨hr, ho⟩, hB⟩ _
    have hlt : x.1 % 67 < 67 := Nat.mod_lt _ (by decide)
    have hc : W.cell? ⟨w.heap.size + 1 + 1, x.1 % 67, none⟩ = some (.int .i64 ((rowL pre)[x.1 % 67]'(by rw [rowL_length]; exact hlt) : Nat)) := by
      rw [ho.cell]; simp [icells, rowL_length, hlt]
    have hf : W.frozen? ⟨w.heap.size + 1 + 1, x.1 % 67, none⟩ = false := ho.frozen _
    gi_wp2
    refine ⟨KeepsOthers.setCell _ _ _, heap_setCell_other _ _ _ _ (by simp), ⟨hr.far (by simp) _, ?_⟩, hB.setCell (p := ⟨w.heap.size + 1 + 1, x.1 % 67, none⟩) (by simp; omega) _⟩
    rw [rowL_snoc, ← icells_set]
    exact ho.set_ _ _
  case done =>
    rintro D ys W hD rfl ⟨⟨hr, ho⟩, hB⟩ hK
    rw [rowL_all] at ho
    gi_wp2_with (first
      | (refine wpListIn_loadAll W rfl 54 _ rfl (w.heap.size + 1 + 1) 54 (icells (wdigs m)).toArray ho _ rfl Tryd.underlying54 rfl (by rw [List.size_toArray, icells_length, wdigs_length67]; kernel_rfl) ?_)
      | (refine wpListIn_storeAll W rfl 54 _ _ rfl (w.heap.size + 1) 54 _ (icells (wdigs m)).toArray hr rfl rfl (by rw [List.size_toArray, List.size_toArray, icells_length, icells_length, wdigs_length67]; rfl) (by rw [List.size_toArray, icells_length, wdigs_length67]; kernel_rfl) (fun v hv => icells_one _ v (by simpa using hv)) ?_; intro w3 hb3 hg3 hs3))
    have hlt := (Array.getElem?_eq_some_iff.1 hK).1
    have hK' : w3.heap[D]? = some (.deferred (some [])) := (hg3.block D hlt (by simp; omega)).trans hK
    refine ⟨by simp, .inl ⟨_, _, rfl, run_takeDeferred hK', ?_⟩⟩
    have hb4 := hb3.grown (grownBy_putObj' w3 D (.deferred none)) (by simp; omega)
    refine ⟨_, results_cell_row rfl _ _ (w.heap.size + 1) _ _ _ _ rfl hb4 Tryd.underlying54 rfl (by rw [List.size_toArray, icells_length, wdigs_length67]; kernel_rfl), rfl, ?_⟩
    exact grown_below (grown_below hB hg3 hB.size (by omega)) (grownBy_putObj' w3 D (.deferred none)) (by rw [hs3]; exact hB.size) (by omega)
  case stop =>
    rintro D c pre W _ _ h _
    exact h.elim
end Go.Proofs.YtapkhafgfbhkkaaDoor
