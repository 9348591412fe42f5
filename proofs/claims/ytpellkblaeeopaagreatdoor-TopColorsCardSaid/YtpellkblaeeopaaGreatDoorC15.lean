/-
  Parts: GcO Tail.
-/
import Derived.Test.YtpellkblaeeopaaGreatDoorC09
import Derived.Test.YtpellkblaeeopaaGreatDoorC01
/-
  Plain: parts of an address space; results that lie in a cell; loads of a whole value at a place.
-/
namespace Go.Proofs.YtpellkblaeeopaaGreatDoor
open Go.RowKit

/-- a part of an address space that is normal memory with permission 3 -/
structure Mp where
  ipa : Nat
  pa : Nat
  size : Nat
def Mp.cells (m : Mp) : Array Value := #[.int .u64 (m.ipa : Int), .int .u64 (m.pa : Int), .int .u64 (m.size : Int), .int .i64 3, .int .i64 0]
def pcells (l : List Mp) : List Value := l.flatMap (·.cells.toList)
theorem pcells_append (a b : List Mp) : pcells (a ++ b) = pcells a ++ pcells b := by simp [pcells]
theorem pcells_length (l : List Mp) : (pcells l).length = l.length * 5 := by
  induction l with
  | nil => rfl
  | cons s l ih => simp only [pcells, List.flatMap_cons, List.length_append] at *; rw [ih]; simp [Mp.cells]; omega
def sumS (l : List Sp) : Nat := (l.map (·.size)).sum
def mapsFrom : Nat → List Sp → List Mp
  | _, [] => []
  | i, s :: l => ⟨i, s.base, s.size⟩ :: mapsFrom (i + s.size) l
theorem mapsFrom_append : ∀ (a b : List Sp) (i : Nat), mapsFrom i (a ++ b) = mapsFrom i a ++ mapsFrom (i + sumS a) b
  | [], b, i => by simp [mapsFrom, sumS]
  | s :: a, b, i => by simp only [List.cons_append, mapsFrom, mapsFrom_append a b, sumS, List.map_cons, List.sum_cons, Nat.add_assoc]
theorem mapsFrom_length : ∀ (a : List Sp) (i : Nat), (mapsFrom i a).length = a.length
  | [], i => rfl
  | s :: a, i => by simp [mapsFrom, mapsFrom_length a]
theorem sumS_append (a b : List Sp) : sumS (a ++ b) = sumS a + sumS b := by simp [sumS]
theorem elMap : Elem Tryz.prog 37 91 (.agg #[.int .u64 0, .int .u64 0, .int .u64 0, .int .i64 0, .int .i64 0]) 5 40 := Elem.of (by kernel_rfl) (by kernel_rfl) rfl (by omega)
theorem results_cellS {P : Program} {fn : Func} {p : Tmp} {ty : TypeId} (h : fn.results = #[.cell p ty]) (tmps : Array Value) (w : World) (g : Nat) (t : TypeId) (cs : Array Value) (fr : Nat × Nat) (d : TypeDesc)
    (hp : tmps.getD p undef = .pointer (some ⟨g, 0, none⟩)) (hg : w.heap[g]? = some (.cells cs t fr))
    (hu : P.underlying ty = some d) (hd : (match d with | .struct _ | .array _ _ => true | _ => false) = true) (hi : (P.info? ty).map (·.size) = some cs.size) :
    (results fn tmps).run P w = .ok (.agg cs) w := by
  have hp' : tmps[p]?.getD undef = .pointer (some ⟨g, 0, none⟩) := by simpa using hp
  simp [results, h, hp', asAddr, run_loadVar_row w g t ty cs fr d hg hu hd hi]
theorem reg_loadPK {P : Program} {o : Oper} {a : Act} {w : World} (ty : TypeId) (t : Tmp) (ho : o.op = .load ty (.tmp t)) {b off : Nat} {cs : List Value} (he : a.tmps[t]?.getD undef = .pointer (some ⟨b, off, none⟩))
    (h : w.rangeAt b off cs) {d : TypeDesc} (hu : P.underlying ty = some d) (hd : d.isRow = true) (hi : (P.info? ty).map (·.size) = some cs.length) :
    (execOp a.eval o).run P w = .ok (.value (.agg cs.toArray)) w := by
  have := run_loadAt_mid (P := P) w b off ty cs d h hu hd hi
  simp [execOp, ho, Act.eval, he, this]
section
variable {w : World}
theorem reg_storeIntG {P : Program} {o : Oper} {a : Act} {w : World} {ty : TypeId} {x y : Tmp} (ho : o.op = .store ty (.tmp x) (.tmp y)) (hi : (P.info? ty).map (·.size) = some 1) {g off : Nat} {t : TypeId} {cs : Array Value} {k : IntKind} {z : Int} (hb : Blk w g t cs)
    (hx : a.tmps[x]?.getD undef = .pointer (some ⟨g, off, none⟩)) (hy : a.tmps[y]?.getD undef = .int k z) (hoff : off < cs.size) : (execOp a.eval o).run P w = .ok .skip (w.setCell ⟨g, off, none⟩ (.int k z)) := by
  have hc := hb.cell off
  rw [Array.getElem?_eq_getElem hoff] at hc
  have hf := hb.frozen off
  obtain ⟨i, hinf, hsz⟩ := Option.map_eq_some_iff.1 hi
  have hs : (sizeOf ty).run P w = .ok 1 w := by simp [sizeOf, typeInfo, hinf, hsz]
  simp [execOp, ho, Act.eval, hx, hy, Instr.storeAt, storeCells, Value.cells, hs, go_sem, hc, hf]
end
end Go.Proofs.YtpellkblaeeopaaGreatDoor
/-
  A region whose first operations draw their order and change nothing that was there, and whose last ones (stores) come behind all of these, in the order of the text.
-/
namespace Go.Proofs.YtpellkblaeeopaaGreatDoor
open Go.RowKit
namespace Reg
section
variable {P : Program} {ops : Array Oper} {Q : Exit → Act → World → Prop} {a0 : Act} {w0 : World}

/-- each operation from m on waits for all that stand ahead of it -/
def cover (ops : Array Oper) (m : Nat) : Bool :=
  (List.range ops.size).all fun i => decide (i < m) || (List.range i).all fun j => behind ops i j || (List.range i).any fun k => behind ops i k && behind ops k j

theorem behind_edge {i j : Nat} (hi : i < ops.size) (h : behind ops i j = true) : ∃ e ∈ (ops[i]'hi).after, binds e = true ∧ e.on = j := by
  simp only [behind, Array.getElem?_eq_getElem hi, Option.map_some, Option.getD_some, Array.any_eq_true', Bool.and_eq_true, beq_iff_eq] at h
  obtain ⟨e, he, hb, ho⟩ := h
  exact ⟨e, he, hb, ho⟩

theorem covered {m i j : Nat} {L : Array Bool} (hcov : cover ops m = true) (him : m ≤ i) (hi : i < ops.size) (hj : j < i)
    (hpre : ∀ e ∈ (ops[i]'hi).after, binds e = true → L.getD e.on false = true)
    (hcl : ∀ j o, L.getD j false = true → ops[j]? = some o → ∀ e ∈ o.after, binds e = true → L.getD e.on false = true) : L.getD j false = true := by
  have h1 := (List.all_eq_true.1 hcov) i (by simpa using hi)
  simp only [Bool.or_eq_true, decide_eq_true_eq] at h1
  rcases h1 with h1 | h1
  · omega
  · have h2 := (List.all_eq_true.1 h1) j (by simpa using hj)
    simp only [Bool.or_eq_true, List.any_eq_true, List.mem_range, Bool.and_eq_true] at h2
    rcases h2 with h2 | ⟨k, hk, h3, h4⟩
    · obtain ⟨e, he, hb, rfl⟩ := behind_edge hi h2
      exact hpre e he hb
    · obtain ⟨e, he, hb, rfl⟩ := behind_edge hi h3
      have hk' : e.on < ops.size := by omega
      obtain ⟨e', he', hb', rfl⟩ := behind_edge hk' h4
      exact hcl _ _ (hpre e he hb) (Array.getElem?_eq_getElem hk') e' he' hb'

abbrev ptr (b : Nat) : Value := .pointer (some ⟨b, 0, none⟩)
/-- a pointer to a new block -/
def newK (te : TypeId) (z : Array Value) : Kd := fun v w => ∃ b, v = ptr b ∧ Blk w b te z
theorem stable_new (te : TypeId) (z : Array Value) : Stable (newK te z) := fun _ _ _ ⟨b, h1, h2⟩ h => ⟨b, h1, h2.ext h⟩
/-- the blocks that the operations al made are not one another's -/
def Fr (ops : Array Oper) (al : List Nat) (w0 : World) (L : Array Bool) (a : Act) (w : World) : Prop :=
  ∀ i ∈ al, L.getD i false = true → ∀ t, writer ops t = some i → ∃ b, a.tmps[t]? = some (ptr b) ∧ (w0.heap.size ≤ b ∧ b < w.heap.size) ∧ ∀ j ∈ al, j ≠ i → L.getD j false = true → ∀ t', writer ops t' = some j → a.tmps[t']? ≠ some (ptr b)
theorem put_other {i j : Nat} {t : Tmp} (a : Act) (v : Value) (hi : i < ops.size) (hdst : (match (ops[i]'hi).dst with | none => true | some t => decide (t < a0.tmps.size) && writer ops t == some i) = true) (hw : writer ops t = some j) (hji : j ≠ i) :
    (a.put (ops[i]'hi).dst v).tmps[t]? = a.tmps[t]? := by
  cases hd : (ops[i]'hi).dst with
  | none => rfl
  | some d =>
    simp only [Act.put]
    rw [Array.getElem?_setIfInBounds_ne]
    intro e
    subst e
    rw [hd] at hdst
    simp only [Bool.and_eq_true, beq_iff_eq] at hdst
    rw [hdst.2] at hw; cases hw; exact hji rfl

/-- what stands behind the first m operations -/
structure FinalM (ops : Array Oper) (m : Nat) (al : List Nat) (a0 : Act) (w0 : World) (Ts : List Kd) (a : Act) (w : World) : Prop where
  defers : a.defers = a0.defers
  tmps : a.tmps.size = a0.tmps.size
  ext : Ext w0 w
  old : ∀ t, (∀ j, writer ops t = some j → m ≤ j) → a.tmps[t]? = a0.tmps[t]?
  new : ∀ t j, writer ops t = some j → j < m → ∃ v T, Ts[j]? = some T ∧ a.tmps[t]? = some v ∧ T v w
  fresh : ∀ i ∈ al, ∀ t, writer ops t = some i → ∃ b, a.tmps[t]? = some (ptr b) ∧ (w0.heap.size ≤ b ∧ b < w.heap.size) ∧ ∀ j ∈ al, j ≠ i → ∀ t', writer ops t' = some j → a.tmps[t']? ≠ some (ptr b)

theorem not_ready_nil (hs : shape ops a0.tmps.size = true) {L : Array Bool} (hL : L.size = ops.size) : ∀ j, j < ops.size → L.getD j false = false → (∀ k, k < j → L.getD k false = true) → j ∈ Region.ready .any ops L := by
  intro j hj hf hk
  unfold Region.ready
  rw [List.mem_filter]
  refine ⟨by simpa using hj, ?_⟩
  have hjL : j < L.size := by rw [hL]; exact hj
  have h1 : L.getD j true = false := by
    simp [hjL] at hf ⊢; exact hf
  rw [h1, Array.getElem?_eq_getElem hj]
  simp only [Bool.not_false, Option.map_some, Option.getD_some, Bool.true_and, Array.all_eq_true]
  intro k hk'
  have hsj := (List.all_eq_true.1 hs) j (by simpa using hj)
  rw [Array.getElem?_eq_getElem hj] at hsj
  simp only [Option.map_some, Option.getD_some, Bool.and_eq_true] at hsj
  have he := (Array.all_eq_true.1 hsj.2) k hk'
  simp only [binds, Bool.or_eq_true, Bool.not_eq_true', decide_eq_true_eq] at he
  rcases he with he | he
  · simp [he]
  · rw [hk _ he]; simp

theorem least {L : Array Bool} {m : Nat} (h : ¬ ∀ j, j < m → L.getD j false = true) : ∃ j, j < m ∧ L.getD j false = false ∧ ∀ k, k < j → L.getD k false = true := by
  induction m with
  | zero => exact absurd (fun j hj => absurd hj (Nat.not_lt_zero j)) h
  | succ m ih =>
    by_cases h' : ∀ j, j < m → L.getD j false = true
    · refine ⟨m, Nat.lt_succ_self m, ?_, h'⟩
      cases hm : L.getD m false with
      | false => rfl
      | true =>
        exfalso
        exact h fun j hj => by
          rcases Nat.lt_or_ge j m with h1 | h1
          · exact h' j h1
          · obtain rfl : j = m := by omega
            exact hm
    · obtain ⟨j, h1, h2⟩ := ih h'
      exact ⟨j, by omega, h2⟩

theorem mem_count {L : Array Bool} (hL : L.size = ops.size) {j : Nat} (hj : j < ops.size) (hf : L.getD j false = false) : j ∈ (List.range ops.size).filter fun i => !L.getD i true := by
  rw [List.mem_filter]
  refine ⟨by simpa using hj, ?_⟩
  have hjL : j < L.size := by rw [hL]; exact hj
  simp [hjL] at hf ⊢; exact hf

theorem step_tail (hs : shape ops a0.tmps.size = true) {m : Nat} (hm : m ≤ ops.size) (hcov : cover ops m = true) {Ts : List Kd} {al : List Nat} (hlow : ∀ i ∈ al, i < m)
    (hal : ∀ i ∈ al, ∀ o, ops[i]? = some o → ∃ te z, o.guard = none ∧ o.op = .alloc te ∧ (∀ W, (zeroValue te).run P W = .ok (.agg z) W) ∧ Ts[i]? = some (newK te z))
    (hg : ∀ i o, i < m → ops[i]? = some o → ∃ T, Ts[i]? = some T ∧ Good P ops Q a0 w0 (Ts.take i) i o T)
    (hend : ∀ (fuel : Nat) (L : Array Bool) (a : Act) (w : World), FinalM ops m al a0 w0 Ts a w → L.size = ops.size → (∀ j, L.getD j false = decide (j < m)) → ((List.range ops.size).filter fun i => !L.getD i true).length ≤ fuel → wpAny P .any ops Q fuel L a w) :
    ∀ (fuel : Nat) (L : Array Bool) (a : Act) (w : World), J ops a0 w0 Ts L a w → (∀ j, m ≤ j → L.getD j false = false) → Fr ops al w0 L a w → ((List.range ops.size).filter fun i => !L.getD i true).length ≤ fuel → wpAny P .any ops Q fuel L a w := by
  intro fuel
  induction fuel with
  | zero =>
    intro L a w hJ hF hFr hf
    by_cases hall : ∀ j, j < m → L.getD j false = true
    · exact hend 0 L a w ⟨hJ.defers, hJ.tmps, hJ.ext, fun t ht => hJ.old t (fun j hj => hF j (ht j hj)), fun t j hj hjm => hJ.new j (hall j hjm) t hj, fun i hi t ht => by
        obtain ⟨b, h1, h2, h3⟩ := hFr i hi (hall i (hlow i hi)) t ht
        exact ⟨b, h1, h2, fun j hj hji => h3 j hj hji (hall j (hlow j hj))⟩⟩ hJ.size (fun j => by
        rcases Nat.lt_or_ge j m with h | h
        · rw [hall j h]; simp [h]
        · rw [hF j h]; simp; exact h) hf
    · exfalso
      obtain ⟨j, h1, h2, h3⟩ := least hall
      have := mem_count hJ.size (show j < ops.size by omega) h2
      rw [List.eq_nil_of_length_eq_zero (Nat.le_zero.1 hf)] at this
      cases this
  | succ fuel ih =>
    intro L a w hJ hF hFr hf
    by_cases hall : ∀ j, j < m → L.getD j false = true
    · exact hend _ L a w ⟨hJ.defers, hJ.tmps, hJ.ext, fun t ht => hJ.old t (fun j hj => hF j (ht j hj)), fun t j hj hjm => hJ.new j (hall j hjm) t hj, fun i hi t ht => by
        obtain ⟨b, h1, h2, h3⟩ := hFr i hi (hall i (hlow i hi)) t ht
        exact ⟨b, h1, h2, fun j hj hji => h3 j hj hji (hall j (hlow j hj))⟩⟩ hJ.size (fun j => by
        rcases Nat.lt_or_ge j m with h | h
        · rw [hall j h]; simp [h]
        · rw [hF j h]; simp; exact h) hf
    refine ⟨fun hr => ?_, fun i hi => ?_⟩
    · exfalso
      obtain ⟨j, h1, h2, h3⟩ := least hall
      have := not_ready_nil hs hJ.size j (by omega) h2 h3
      rw [hr] at this; cases this
    unfold Region.ready at hi
    rw [List.mem_filter] at hi
    obtain ⟨hir, hib⟩ := hi
    have hi' : i < ops.size := by simpa using hir
    have hiL : i < L.size := by rw [hJ.size]; exact hi'
    rw [Array.getElem?_eq_getElem hi'] at hib
    simp only [Option.map_some, Option.getD_some, Bool.and_eq_true, Bool.not_eq_true'] at hib
    obtain ⟨hiF, hedges⟩ := hib
    have hiF' : L.getD i false = false := by simp [hiL] at hiF ⊢; exact hiF
    have hpre : ∀ e ∈ (ops[i]'hi').after, binds e = true → L.getD e.on false = true := by
      intro e he hb
      have := (Array.all_eq_true'.1 hedges) e he
      simp only [binds] at hb
      simpa [hb] using this
    have him : i < m := by
      rcases Nat.lt_or_ge i m with h | h
      · exact h
      · exfalso
        exact hall fun j hj => covered hcov h hi' (by omega) (fun e he hb => hpre e he hb) hJ.closed
    obtain ⟨T, hT, hst, hgood⟩ := hg i _ him (Array.getElem?_eq_getElem hi')
    have hsi := (List.all_eq_true.1 hs) i (by simpa using hi')
    rw [Array.getElem?_eq_getElem hi'] at hsi
    simp only [Option.map_some, Option.getD_some, Bool.and_eq_true] at hsi
    obtain ⟨⟨hlook, hdst⟩, hback⟩ := hsi
    have hstep := hgood a w hJ.ext hJ.defers (by
      intro t ht
      have hl1 := (List.all_eq_true.1 hlook) t ht
      unfold Sees
      cases hw : writer ops t with
      | none => exact hJ.old t (fun j hj => by rw [hw] at hj; cases hj)
      | some j =>
        simp only [hw, Bool.or_eq_true, Bool.and_eq_true, decide_eq_true_eq, beq_iff_eq] at hl1
        simp only []
        split
        · rename_i hji
          rcases hl1 with (⟨_, hb⟩ | ⟨h1, _⟩) | h1
          · simp only [behind, Array.getElem?_eq_getElem hi', Option.map_some, Option.getD_some, Array.any_eq_true', Bool.and_eq_true, beq_iff_eq] at hb
            obtain ⟨e, he, hbe, hon⟩ := hb
            have hLj := hpre e he hbe
            rw [hon] at hLj
            obtain ⟨v, T', h1, h2, h3⟩ := hJ.new j hLj t hw
            refine ⟨v, T', ?_, h2, h3⟩
            rw [List.getElem?_take, if_pos hji]; exact h1
          · omega
          · omega
        · rename_i hji
          refine hJ.old t (fun j' hj' => ?_)
          rw [hw] at hj'; cases hj'
          rcases hl1 with (⟨h1, _⟩ | ⟨_, hb⟩) | h1
          · omega
          · cases hLj : L.getD j false with
            | false => rfl
            | true =>
              exfalso
              have hj := (writer_some hw).1
              simp only [behind, Array.getElem?_eq_getElem hj, Option.map_some, Option.getD_some, Array.any_eq_true', Bool.and_eq_true, beq_iff_eq] at hb
              obtain ⟨e, he, hbe, hon⟩ := hb
              have := hJ.closed j _ hLj (Array.getElem?_eq_getElem hj) e he hbe
              rw [hon, hiF'] at this; cases this
          · rw [h1]; exact hiF')
    have hcount : ((List.range ops.size).filter fun k => !(L.setIfInBounds i true).getD k true).length ≤ fuel := by
      have hlt : ((List.range ops.size).filter fun k => !(L.setIfInBounds i true).getD k true).length < ((List.range ops.size).filter fun k => !L.getD k true).length := by
        have hsub : ((List.range ops.size).filter fun k => !(L.setIfInBounds i true).getD k true) = ((List.range ops.size).filter fun k => !L.getD k true).filter (· != i) := by
          rw [List.filter_filter]
          apply List.filter_congr
          intro k hk
          have hk' : k < ops.size := by simpa using hk
          have hkL : k < L.size := by rw [hJ.size]; exact hk'
          by_cases h : k = i
          · subst h; simp [hkL]
          · simp [h, Array.getElem?_setIfInBounds_ne (Ne.symm h)]
        rw [hsub]
        have hm : i ∈ ((List.range ops.size).filter fun k => !L.getD k true) := by
          rw [List.mem_filter]; exact ⟨hir, by simp [hiF]⟩
        exact List.length_filter_lt_length_iff_exists.2 ⟨i, hm, by simp⟩
      omega
    have hJ' : ∀ v w', Ext w w' → T v w' → J ops a0 w0 Ts (L.setIfInBounds i true) (a.put (ops[i]'hi').dst v) w' := by
      intro v w' hE hTv
      refine ⟨by simpa using hJ.size, ?_, ?_, ?_, hJ.ext.trans hE, ?_, ?_⟩
      · intro j o hj ho e he hb
        rw [getD_set _ _ _ hiL] at hj ⊢
        split
        · rfl
        · split at hj
          · rename_i _ hji
            subst hji
            rw [Array.getElem?_eq_getElem hi'] at ho; cases ho
            exact hpre e he hb
          · exact hJ.closed j o hj ho e he hb
      · cases hd : (ops[i]'hi').dst <;> simpa [Act.put, hd] using hJ.defers
      · cases hd : (ops[i]'hi').dst <;> simpa [Act.put, hd] using hJ.tmps
      · intro t ht
        have hti : (ops[i]'hi').dst ≠ some t := by
          intro hd
          rw [hd] at hdst
          simp only [Bool.and_eq_true, beq_iff_eq] at hdst
          have := ht i hdst.2
          rw [getD_set _ _ _ hiL, if_pos rfl] at this; cases this
        have h1 : (a.put (ops[i]'hi').dst v).tmps[t]? = a.tmps[t]? := by
          cases hd : (ops[i]'hi').dst with
          | none => rfl
          | some d => simp only [Act.put]; exact Array.getElem?_setIfInBounds_ne (fun e => hti (by rw [hd, e]))
        rw [h1]
        refine hJ.old t (fun j hj => ?_)
        have := ht j hj
        rw [getD_set _ _ _ hiL] at this
        split at this
        · cases this
        · exact this
      · intro j hj t ht
        rw [getD_set _ _ _ hiL] at hj
        by_cases hji : j = i
        · subst hji
          have hd := (writer_some ht).2
          rw [Array.getElem?_eq_getElem hi'] at hd
          simp only [Option.bind_some] at hd
          refine ⟨v, T, hT, ?_, hTv⟩
          rw [hd] at hdst ⊢
          simp only [Bool.and_eq_true, decide_eq_true_eq] at hdst
          have : t < a.tmps.size := by rw [hJ.tmps]; exact hdst.1
          simp [Act.put, this]
        · rw [if_neg hji] at hj
          obtain ⟨v', T', h1, h2, h3⟩ := hJ.new j hj t ht
          have hst' : Stable T' := by
            have hjs := (writer_some ht).1
            have hjm : j < m := by
              rcases Nat.lt_or_ge j m with h | h
              · exact h
              · rw [hF j h] at hj; cases hj
            obtain ⟨T'', h4, h5, _⟩ := hg j _ hjm (Array.getElem?_eq_getElem hjs)
            rw [h1] at h4; cases h4; exact h5
          refine ⟨v', T', h1, ?_, hst' _ _ _ h3 hE⟩
          cases hd : (ops[i]'hi').dst with
          | none => exact h2
          | some d =>
            simp only [Act.put]
            rw [Array.getElem?_setIfInBounds_ne]
            · exact h2
            · intro e
              subst e
              rw [hd] at hdst
              simp only [Bool.and_eq_true, beq_iff_eq] at hdst
              rw [hdst.2] at ht; cases ht; exact hji rfl
    have hF' : ∀ j, m ≤ j → (L.setIfInBounds i true).getD j false = false := fun j hj => by
      rw [getD_set _ _ _ hiL, if_neg (by omega)]; exact hF j hj
    unfold wpOp
    rw [Array.getElem?_eq_getElem hi']
    simp only []
    by_cases hial : i ∈ al
    · obtain ⟨te, z, hgd, hop, hz, hTz⟩ := hal i hial _ (Array.getElem?_eq_getElem hi')
      rw [hT] at hTz; cases hTz
      have hw : Region.wanted (ops[i]'hi') (yielded ops a.tmps) = true := by simp [Region.wanted, hgd]
      rw [if_pos hw]
      have hrun : (execOp a.eval (ops[i]'hi')).run P w = .ok (.value (ptr w.heap.size)) (w.alloc (.cells z te)) := by
        simp [execOp, hop, hz, go_sem]
      refine .inl ?_
      unfold Oper.wp
      rw [hrun]
      refine ih _ _ _ (hJ' _ _ ((Ext.refl w).alloc _) ⟨_, rfl, Blk.new _ _ _⟩) hF' ?_ hcount
      have hput : ∀ t, writer ops t = some i → (a.put (ops[i]'hi').dst (ptr w.heap.size)).tmps[t]? = some (ptr w.heap.size) := fun t ht => by
        have hd := (writer_some ht).2
        rw [Array.getElem?_eq_getElem hi'] at hd
        simp only [Option.bind_some] at hd
        rw [hd] at hdst ⊢
        simp only [Bool.and_eq_true, decide_eq_true_eq] at hdst
        have : t < a.tmps.size := by rw [hJ.tmps]; exact hdst.1
        simp [Act.put, this]
      intro k hk hLk t ht
      rw [getD_set _ _ _ hiL] at hLk
      by_cases hki : k = i
      · subst hki
        refine ⟨w.heap.size, hput t ht, ⟨hJ.ext.size, by simp⟩, fun j hj hji hLj t' ht' => ?_⟩
        rw [getD_set _ _ _ hiL, if_neg hji] at hLj
        rw [put_other (a0 := a0) a _ hi' hdst ht' hji]
        obtain ⟨b, h1, h2, _⟩ := hFr j hj hLj t' ht'
        rw [h1]
        intro e
        simp only [Option.some.injEq, Value.pointer.injEq, Addr.mk.injEq, and_true] at e
        omega
      · rw [if_neg hki] at hLk
        obtain ⟨b, h1, h2, h3⟩ := hFr k hk hLk t ht
        refine ⟨b, by rw [put_other (a0 := a0) a _ hi' hdst ht hki]; exact h1, ⟨h2.1, by simp; omega⟩, fun j hj hji hLj t' ht' => ?_⟩
        rw [getD_set _ _ _ hiL] at hLj
        by_cases hj' : j = i
        · subst hj'
          rw [hput t' ht']
          intro e
          simp only [Option.some.injEq, Value.pointer.injEq, Addr.mk.injEq, and_true] at e
          omega
        · rw [if_neg hj'] at hLj
          rw [put_other (a0 := a0) a _ hi' hdst ht' hj']
          exact h3 j hj hji hLj t' ht'
    have hFr' : ∀ v w', Ext w w' → Fr ops al w0 (L.setIfInBounds i true) (a.put (ops[i]'hi').dst v) w' := by
      intro v w' hE k hk hLk t ht
      have hki : k ≠ i := fun e => hial (e ▸ hk)
      rw [getD_set _ _ _ hiL, if_neg hki] at hLk
      obtain ⟨b, h1, h2, h3⟩ := hFr k hk hLk t ht
      refine ⟨b, by rw [put_other (a0 := a0) a _ hi' hdst ht hki]; exact h1, ⟨h2.1, Nat.lt_of_lt_of_le h2.2 hE.size⟩, fun j hj hji hLj t' ht' => ?_⟩
      have hj' : j ≠ i := fun e => hial (e ▸ hj)
      rw [getD_set _ _ _ hiL, if_neg hj'] at hLj
      rw [put_other (a0 := a0) a _ hi' hdst ht' hj']
      exact h3 j hj hji hLj t' ht'
    rcases hstep with ⟨hw, hwp⟩ | ⟨hw, hTu⟩
    · rw [if_pos hw]
      refine .inl (Oper.wp_mono ?_ hwp)
      rintro a' w' ⟨v, rfl, hE, hTv⟩
      exact ih _ _ _ (hJ' v w' hE hTv) hF' (hFr' v w' hE) hcount
    · rw [if_neg (by rw [hw]; simp)]
      exact ih _ _ _ (hJ' undef w (Ext.refl _) hTu) hF' (hFr' undef w (Ext.refl _)) hcount

theorem step_seq (hs : shape ops a0.tmps.size = true) {m : Nat} (hcov : cover ops m = true) :
    ∀ (fuel k : Nat) (L : Array Bool) (a : Act) (w : World), m ≤ k → k ≤ ops.size → L.size = ops.size → (∀ j, L.getD j false = decide (j < k)) → wpList P ops Q (ops.toList.drop k) a w →
      ((List.range ops.size).filter fun i => !L.getD i true).length ≤ fuel → wpAny P .any ops Q fuel L a w := by
  intro fuel
  induction fuel with
  | zero =>
    intro k L a w hk1 hk2 hL hd hw hf
    have hk : k = ops.size := by
      rcases Nat.lt_or_ge k ops.size with h | h
      · exfalso
        have := mem_count hL h (by rw [hd]; simp)
        rw [List.eq_nil_of_length_eq_zero (Nat.le_zero.1 hf)] at this
        cases this
      · omega
    subst hk
    rw [List.drop_eq_nil_of_le (by simp)] at hw
    refine ⟨?_, hw⟩
    unfold Region.ready
    apply List.eq_nil_iff_forall_not_mem.2
    intro i hi
    rw [List.mem_filter] at hi
    have hi1 : i < ops.size := by simpa using hi.1
    have hiL : i < L.size := by rw [hL]; exact hi1
    have := hd i
    simp [hiL, hi1] at this hi
    rw [this] at hi; simp at hi
  | succ fuel ih =>
    intro k L a w hk1 hk2 hL hd hw hf
    refine ⟨fun hr => ?_, fun i hi => ?_⟩
    · rcases Nat.lt_or_ge k ops.size with h | h
      · exfalso
        have := not_ready_nil hs hL k h (by rw [hd]; simp) (fun j hj => by rw [hd]; simp [hj])
        rw [hr] at this; cases this
      · obtain rfl : k = ops.size := by omega
        rw [List.drop_eq_nil_of_le (by simp)] at hw
        exact hw
    · unfold Region.ready at hi
      rw [List.mem_filter] at hi
      obtain ⟨hir, hib⟩ := hi
      have hi' : i < ops.size := by simpa using hir
      have hiL : i < L.size := by rw [hL]; exact hi'
      rw [Array.getElem?_eq_getElem hi'] at hib
      simp only [Option.map_some, Option.getD_some, Bool.and_eq_true, Bool.not_eq_true'] at hib
      obtain ⟨hiF, hedges⟩ := hib
      have hiF' : L.getD i false = false := by simp [hiL] at hiF ⊢; exact hiF
      have hpre : ∀ e ∈ (ops[i]'hi').after, binds e = true → L.getD e.on false = true := by
        intro e he hb
        have := (Array.all_eq_true'.1 hedges) e he
        simp only [binds] at hb
        simpa [hb] using this
      have hik : k ≤ i := by
        have := hd i
        rw [hiF'] at this
        simpa using this.symm
      obtain rfl : i = k := by
        rcases Nat.lt_or_ge k i with h | h
        · exfalso
          have hc : L.getD k false = true := covered hcov (by omega) hi' h hpre (fun j o hj ho e he hb => by
            have hj' : j < k := by rw [hd] at hj; simpa using hj
            have hjs : j < ops.size := by omega
            rw [Array.getElem?_eq_getElem hjs] at ho; cases ho
            have hsj := (List.all_eq_true.1 hs) j (by simpa using hjs)
            rw [Array.getElem?_eq_getElem hjs] at hsj
            simp only [Option.map_some, Option.getD_some, Bool.and_eq_true] at hsj
            have h2 := (Array.all_eq_true'.1 hsj.2) e he
            simp only [hb, Bool.not_true, Bool.false_or, decide_eq_true_eq] at h2
            rw [hd]; simp; omega)
          rw [hd] at hc; simp at hc
        · omega
      have hlist : ops.toList.drop i = (ops[i]'hi') :: ops.toList.drop (i + 1) := by
        rw [List.drop_eq_getElem_cons (by simpa using hi')]; simp
      rw [hlist] at hw
      have hd' : ∀ j, (L.setIfInBounds i true).getD j false = decide (j < i + 1) := fun j => by
        rw [getD_set _ _ _ hiL, hd]
        by_cases h : j = i
        · simp [h]
        · simp only [if_neg h]; congr 1; apply propext; omega
      have hcount : ((List.range ops.size).filter fun k => !(L.setIfInBounds i true).getD k true).length ≤ fuel := by
        have hlt : ((List.range ops.size).filter fun k => !(L.setIfInBounds i true).getD k true).length < ((List.range ops.size).filter fun k => !L.getD k true).length := by
          have hsub : ((List.range ops.size).filter fun k => !(L.setIfInBounds i true).getD k true) = ((List.range ops.size).filter fun k => !L.getD k true).filter (· != i) := by
            rw [List.filter_filter]
            apply List.filter_congr
            intro k hk
            have hk' : k < ops.size := by simpa using hk
            have hkL : k < L.size := by rw [hL]; exact hk'
            by_cases h : k = i
            · subst h; simp [hkL]
            · simp [h, Array.getElem?_setIfInBounds_ne (Ne.symm h)]
          rw [hsub]
          exact List.length_filter_lt_length_iff_exists.2 ⟨i, mem_count hL hi' hiF', by simp⟩
        omega
      unfold wpOp
      rw [Array.getElem?_eq_getElem hi']
      simp only []
      unfold wpList at hw
      have hnext : ∀ a w, wpList P ops Q (ops.toList.drop (i + 1)) a w → wpAny P .any ops Q fuel (L.setIfInBounds i true) a w :=
        fun a w h => ih (i + 1) _ a w (by omega) (by omega) (by simpa using hL) hd' h hcount
      split at hw
      · rename_i hwant
        rw [if_pos hwant]
        rcases hw with hw | hw
        · exact .inl (Oper.wp_mono (fun a w h => hnext a w h) hw)
        · exact .inr hw
      · rename_i hwant
        rw [if_neg hwant]
        exact hnext _ _ hw

theorem wp_region_tail {id : Nat} (m : Nat) (al : List Nat) (hlow : al.all (fun i => decide (i < m)) = true) (hmo : P.follows .mixedOrders = true) (hs : shape ops a0.tmps.size = true) (hcov : cover ops m = true) (hm : decide (m ≤ ops.size) = true)
    (h : PassR P ops Q a0 w0.drew (fun Ts => (∀ i ∈ al, ∀ o, ops[i]? = some o → ∃ te z, o.guard = none ∧ o.op = .alloc te ∧ (∀ W, (zeroValue te).run P W = .ok (.agg z) W) ∧ Ts[i]? = some (newK te z)) ∧ ∀ a w, FinalM ops m al a0 w0.drew Ts a w → wpList P ops Q (ops.toList.drop m) a w) (ops.toList.take m) []) : (Code.region id ops true).wp P Q a0 w0 := by
  have hm' : m ≤ ops.size := of_decide_eq_true hm
  obtain ⟨Ts, hend, hl, hg⟩ := pass_get _ _ (pass_of_R _ _ h)
  simp only [List.reverse_nil, List.nil_append, List.length_nil, Nat.zero_add] at hend hg
  refine wp_region_any hmo (step_tail hs hm' hcov (fun i hi => of_decide_eq_true (List.all_eq_true.1 hlow i hi)) hend.1 (fun i o him hi => hg i o (by rw [List.getElem?_take, if_pos him]; simpa using hi))
    (fun fuel L a w hF hL hd hf => step_seq hs hcov fuel m L a w (Nat.le_refl _) hm' hL hd (hend.2 a w hF) hf) _ _ _ _ ⟨by simp, ?_, rfl, rfl, Ext.refl _, fun t _ => rfl, ?_⟩ ?_ ?_ (Nat.le_trans (List.length_filter_le _ _) (by simp)))
  · intro j o hj
    exfalso
    by_cases h : j < ops.size <;> simp [h] at hj
  · intro j hj
    exfalso
    by_cases h : j < ops.size <;> simp [h] at hj
  · intro j _
    by_cases h : j < ops.size <;> simp [h]
  · intro i _ hj
    exfalso
    by_cases h : i < ops.size <;> simp [h] at hj

variable {m : Nat} {al : List Nat}
theorem tail_end {Ts : List Kd} {R : Act → World → Prop} (M : List (Option Tmp)) (hM : (List.range a0.tmps.size).map (fun t => if (writer ops t).any (fun j => decide (j < m)) then some t else none) = M)
    (h : ∀ (f : Tmp → Value) (w : World), Ext w0 w → (∀ t j T, writer ops t = some j → j < m → Ts[j]? = some T → T (f t) w) →
      (∀ i ∈ al, ∀ t, writer ops t = some i → ∃ b, f t = ptr b ∧ (w0.heap.size ≤ b ∧ b < w.heap.size) ∧ ∀ j ∈ al, j ≠ i → ∀ t', writer ops t' = some j → f t' ≠ ptr b) → R ⟨(sel f M a0.tmps.toList).toArray, a0.defers⟩ w) :
    ∀ a w, FinalM ops m al a0 w0 Ts a w → R a w := by
  intro a w hF
  have ha : (⟨(sel (fun t => a.tmps[t]?.getD undef) M a0.tmps.toList).toArray, a0.defers⟩ : Act) = a := by
    have e1 : (sel (fun t => a.tmps[t]?.getD undef) M a0.tmps.toList).toArray = a.tmps := by
      have hML : M.length = a0.tmps.toList.length := by rw [← hM]; simp
      apply Array.ext_getElem?
      intro k
      simp only [List.getElem?_toArray]
      by_cases hk : k < a0.tmps.toList.length
      · rw [sel_get _ _ _ _ hk hML, ← hM]
        have hk' : k < a0.tmps.size := by simpa using hk
        have hka : k < a.tmps.size := by rw [hF.tmps]; exact hk'
        simp only [List.getElem?_map, List.getElem?_range hk', Option.map_some]
        cases hw : writer ops k with
        | none => simp only [Option.any_none, Bool.false_eq_true, if_false]; rw [hF.old k (fun j hj => by rw [hw] at hj; cases hj)]; simp
        | some j =>
          by_cases hjm : j < m
          · simp [hka, hjm]
          · simp only [Option.any_some, hjm, decide_false, Bool.false_eq_true, if_false]; rw [hF.old k (fun j' hj => by rw [hw] at hj; cases hj; omega)]; simp
      · rw [List.getElem?_eq_none (by rw [sel_length]; omega), Array.getElem?_eq_none (by rw [hF.tmps]; simpa using hk)]
    cases a
    simp only [Act.mk.injEq]
    exact ⟨e1, hF.defers.symm⟩
  have := h (fun t => a.tmps[t]?.getD undef) w hF.ext (by
      intro t j T hw hjm hT
      obtain ⟨v, T', h1, h2, h3⟩ := hF.new t j hw hjm
      rw [hT] at h1; cases h1
      rw [h2]; exact h3) (by
      intro i hi t ht
      obtain ⟨b, h1, h2, h3⟩ := hF.fresh i hi t ht
      refine ⟨b, by rw [h1]; rfl, h2, fun j hj hji t' ht' e => h3 j hj hji t' ht' ?_⟩
      cases hx : a.tmps[t']? with
      | none => rw [hx] at e; cases e
      | some v => rw [hx] at e; exact congrArg some e)
  rwa [ha] at this

variable {E : List Kd → Prop} {rest : List Oper} {Rs : List Kd} {o : Oper}
/-- new(T): a pointer to a new block -/
theorem pass_new (te : TypeId) (z : Array Value) (hg : o.guard = none) (ho : o.op = .alloc te) (hz : ∀ W, (zeroValue te).run P W = .ok (.agg z) W)
    (k : PassR P ops Q a0 w0 E rest (newK te z :: Rs)) : PassR P ops Q a0 w0 E (o :: rest) Rs :=
  pass_step (newK te z) (stable_new te z) (met_none hg) (fun a w hE hS => by
    have hrun : (execOp a.eval o).run P w = .ok (.value (ptr w.heap.size)) (w.alloc (.cells z te)) := by
      simp [execOp, ho, hz, go_sem]
    unfold Oper.wp
    rw [hrun]
    exact ⟨_, rfl, (Ext.refl _).alloc _, _, rfl, Blk.new _ _ _⟩) k
end
end Reg
end Go.Proofs.YtpellkblaeeopaaGreatDoor
