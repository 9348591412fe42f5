/-
  Parts: Region.
-/
import Derived.Test.YtpellkblaeeopaaGreatDoorC00
import Derived.Orders
/-
  My own law for a region that draws its order and changes nothing that was there (reads, calls that only make memory, allocations, comparisons):
  if each operation, run in any world that extends the first one, with the slots that it looks at holding what their writers leave, comes to a value of its kind,
  then the region does, in whatever order. One pass in the order of the text is enough.
-/
namespace Go.Proofs.YtpellkblaeeopaaGreatDoor
open Go.RowKit

/-- What was there is as it was. -/
def Ext (w w' : World) : Prop := Below w.heap.size w w'
theorem Ext.refl (w : World) : Ext w w := Below.refl _ _
theorem Ext.trans {a b c : World} (h : Ext a b) (k : Ext b c) : Ext a c := Below.trans h (Below.mono k h.size)
theorem Ext.alloc {a b : World} (h : Ext a b) (o : Obj) : Ext a (b.alloc o) := Below.alloc h h.size o
theorem Ext.drew {a b : World} (h : Ext a b) : Ext a b.drew := Below.drew h
theorem Ext.below {B : Nat} {a b : World} (h : Ext a b) (hB : B ≤ a.heap.size) : Below B a b := Below.mono h hB
theorem Rd.ext {w w' : World} {size n : Nat} {A : Option Addr} {xs : List Value} (h : Rd w w.heap.size size A n xs) (e : Ext w w') : Rd w' w'.heap.size size A n xs := (h.below e).more e.size
theorem Blk.ext {w w' : World} {g : Nat} {t : TypeId} {cs : Array Value} (h : Blk w g t cs) (e : Ext w w') : Blk w' g t cs := h.below e h.lt

namespace Reg
abbrev Kd := Value → World → Prop
def eqs (x : Value) : Kd := fun v _ => v = x
def Stable (T : Kd) : Prop := ∀ v w w', T v w → Ext w w' → T v w'
theorem stable_eqs (x : Value) : Stable (eqs x) := fun _ _ _ h _ => h

def binds (e : Edge) : Bool := Region.binds .any e
/-- which operation writes a slot -/
def writer (ops : Array Oper) (t : Tmp) : Option Nat := (List.range ops.size).find? fun j => (ops[j]?).bind (·.dst) == some t
def behind (ops : Array Oper) (j i : Nat) : Bool := ((ops[j]?).map (·.after.any fun e => binds e && e.on == i)).getD false
/-- the form that the law asks: every slot that an operation looks at is written ahead of it (by an edge), or behind it (by an edge), or by none; each slot is written once; edges lead back -/
def shape (ops : Array Oper) (N : Nat) : Bool :=
  (List.range ops.size).all fun i => ((ops[i]?).map fun o =>
    ((o.looksAt ops).all fun t => match writer ops t with | none => true | some j => (decide (j < i) && behind ops i j) || (decide (i < j) && behind ops j i) || j == i) &&
    (match o.dst with | none => true | some t => decide (t < N) && writer ops t == some i) && (o.after.all fun e => !binds e || decide (e.on < i))).getD true

/-- what an operation sees in a slot -/
def Sees (ops : Array Oper) (Ts : List Kd) (a0 : Act) (i : Nat) (a : Act) (w : World) (t : Tmp) : Prop :=
  match writer ops t with
  | none => a.tmps[t]? = a0.tmps[t]?
  | some j => if j < i then ∃ v T, Ts[j]? = some T ∧ a.tmps[t]? = some v ∧ T v w else a.tmps[t]? = a0.tmps[t]?

section
variable {P : Program} {ops : Array Oper} {Q : Exit → Act → World → Prop} {a0 : Act} {w0 : World}

def Step (P : Program) (ops : Array Oper) (Q : Exit → Act → World → Prop) (o : Oper) (T : Kd) (a : Act) (w : World) : Prop :=
  (Region.wanted o (yielded ops a.tmps) = true ∧ o.wp P a w (fun a' w' => ∃ v, a' = a.put o.dst v ∧ Ext w w' ∧ T v w') Q) ∨
  (Region.wanted o (yielded ops a.tmps) = false ∧ T undef w)

def Good (P : Program) (ops : Array Oper) (Q : Exit → Act → World → Prop) (a0 : Act) (w0 : World) (Ts : List Kd) (i : Nat) (o : Oper) (T : Kd) : Prop :=
  Stable T ∧ ∀ a w, Ext w0 w → a.defers = a0.defers → (∀ t ∈ o.looksAt ops, Sees ops Ts a0 i a w t) → Step P ops Q o T a w

/-- one pass in the order of the text -/
def Pass (P : Program) (ops : Array Oper) (Q : Exit → Act → World → Prop) (a0 : Act) (w0 : World) (E : List Kd → Prop) : List Oper → List Kd → Prop
  | [], Ts => E Ts
  | o :: rest, Ts => ∃ T, Good P ops Q a0 w0 Ts Ts.length o T ∧ Pass P ops Q a0 w0 E rest (Ts ++ [T])

structure J (ops : Array Oper) (a0 : Act) (w0 : World) (Ts : List Kd) (L : Array Bool) (a : Act) (w : World) : Prop where
  size : L.size = ops.size
  closed : ∀ j o, L.getD j false = true → ops[j]? = some o → ∀ e ∈ o.after, binds e = true → L.getD e.on false = true
  defers : a.defers = a0.defers
  tmps : a.tmps.size = a0.tmps.size
  ext : Ext w0 w
  old : ∀ t, (∀ j, writer ops t = some j → L.getD j false = false) → a.tmps[t]? = a0.tmps[t]?
  new : ∀ j, L.getD j false = true → ∀ t, writer ops t = some j → ∃ v T, Ts[j]? = some T ∧ a.tmps[t]? = some v ∧ T v w

/-- what stands behind the region -/
structure Final (ops : Array Oper) (a0 : Act) (w0 : World) (Ts : List Kd) (a : Act) (w : World) : Prop where
  defers : a.defers = a0.defers
  tmps : a.tmps.size = a0.tmps.size
  ext : Ext w0 w
  old : ∀ t, writer ops t = none → a.tmps[t]? = a0.tmps[t]?
  new : ∀ t j, writer ops t = some j → ∃ v T, Ts[j]? = some T ∧ a.tmps[t]? = some v ∧ T v w

theorem writer_some {t : Tmp} {j : Nat} (h : writer ops t = some j) : j < ops.size ∧ (ops[j]?).bind (·.dst) = some t := by
  unfold writer at h
  have h1 := List.find?_some h
  have h2 := List.mem_of_find?_eq_some h
  exact ⟨by simpa using h2, by simpa using h1⟩

theorem pass_get {E : List Kd → Prop} : ∀ (l : List Oper) (Ts : List Kd), Pass P ops Q a0 w0 E l Ts →
    ∃ Us, E (Ts ++ Us) ∧ Us.length = l.length ∧ ∀ i o, l[i]? = some o → ∃ T, Us[i]? = some T ∧ Good P ops Q a0 w0 (Ts ++ Us.take i) (Ts.length + i) o T
  | [], Ts, h => ⟨[], by simpa [Pass] using h, rfl, fun i o h => by simp at h⟩
  | o :: rest, Ts, ⟨T, hg, hp⟩ => by
    obtain ⟨Us, hE, hl, hU⟩ := pass_get rest (Ts ++ [T]) hp
    refine ⟨T :: Us, by simpa using hE, by simp [hl], fun i o' hi => ?_⟩
    cases i with
    | zero =>
      simp at hi; subst hi
      exact ⟨T, rfl, by simpa using hg⟩
    | succ i =>
      simp at hi
      obtain ⟨T', h1, h2⟩ := hU i o' hi
      refine ⟨T', by simpa using h1, ?_⟩
      have e : Ts ++ [T] ++ Us.take i = Ts ++ (T :: Us).take (i + 1) := by simp
      have e2 : (Ts ++ [T]).length + i = Ts.length + (i + 1) := by simp; omega
      rw [e, e2] at h2; exact h2

theorem getD_set (L : Array Bool) (i j : Nat) (hi : i < L.size) : (L.setIfInBounds i true).getD j false = (if j = i then true else L.getD j false) := by
  by_cases h : j = i
  · subst h; simp [hi]
  · simp [h, Array.getElem?_setIfInBounds_ne (Ne.symm h)]

theorem step_any (hs : shape ops a0.tmps.size = true) {Ts : List Kd}
    (hg : ∀ i o, ops[i]? = some o → ∃ T, Ts[i]? = some T ∧ Good P ops Q a0 w0 (Ts.take i) i o T)
    (hend : ∀ a w, Final ops a0 w0 Ts a w → Q .normal a w) :
    ∀ (fuel : Nat) (L : Array Bool) (a : Act) (w : World), J ops a0 w0 Ts L a w → ((List.range ops.size).filter fun i => !L.getD i true).length ≤ fuel → wpAny P .any ops Q fuel L a w := by
  have hclose : ∀ (L : Array Bool) (a : Act) (w : World), J ops a0 w0 Ts L a w → Region.ready .any ops L = [] → ∀ j, j < ops.size → L.getD j false = true := by
    intro L a w hJ hr j
    induction j using Nat.strongRecOn with
    | _ j ih =>
      intro hj
      cases hL : L.getD j false with
      | true => rfl
      | false =>
        exfalso
        have hmem : j ∈ Region.ready .any ops L := by
          unfold Region.ready
          rw [List.mem_filter]
          refine ⟨by simpa using hj, ?_⟩
          have hjL : j < L.size := by rw [hJ.size]; exact hj
          have h1 : L.getD j true = false := by
            simp [hjL] at hL ⊢; exact hL
          rw [h1, Array.getElem?_eq_getElem hj]
          simp only [Bool.not_false, Option.map_some, Option.getD_some, Bool.true_and, Array.all_eq_true]
          intro k hk
          have hsj := (List.all_eq_true.1 hs) j (by simpa using hj)
          rw [Array.getElem?_eq_getElem hj] at hsj
          simp only [Option.map_some, Option.getD_some, Bool.and_eq_true] at hsj
          have he := (Array.all_eq_true.1 hsj.2) k hk
          simp only [binds, Bool.or_eq_true, Bool.not_eq_true', decide_eq_true_eq] at he
          rcases he with he | he
          · simp [he]
          · rw [ih _ he (by omega)]; simp
        rw [hr] at hmem
        cases hmem
  have hfin : ∀ (L : Array Bool) (a : Act) (w : World), J ops a0 w0 Ts L a w → Region.ready .any ops L = [] → Q .normal a w := by
    intro L a w hJ hr
    refine hend a w ⟨hJ.defers, hJ.tmps, hJ.ext, fun t ht => hJ.old t (fun j hj => by rw [ht] at hj; cases hj), fun t j hj => hJ.new j (hclose L a w hJ hr j (writer_some hj).1) t hj⟩
  intro fuel
  induction fuel with
  | zero =>
    intro L a w hJ hf
    have hr : Region.ready .any ops L = [] := by
      have h0 : ((List.range ops.size).filter fun i => !L.getD i true) = [] := List.eq_nil_of_length_eq_zero (by omega)
      unfold Region.ready
      apply List.eq_nil_iff_forall_not_mem.2
      intro i hi
      rw [List.mem_filter] at hi
      have : i ∈ ((List.range ops.size).filter fun i => !L.getD i true) := by
        rw [List.mem_filter]
        exact ⟨hi.1, (Bool.and_eq_true _ _ ▸ hi.2).1⟩
      rw [h0] at this; cases this
    exact ⟨hr, hfin L a w hJ hr⟩
  | succ fuel ih =>
    intro L a w hJ hf
    refine ⟨hfin L a w hJ, fun i hi => ?_⟩
    unfold Region.ready at hi
    rw [List.mem_filter] at hi
    obtain ⟨hir, hib⟩ := hi
    have hi' : i < ops.size := by simpa using hir
    have hiL : i < L.size := by rw [hJ.size]; exact hi'
    rw [Array.getElem?_eq_getElem hi'] at hib
    simp only [Option.map_some, Option.getD_some, Bool.and_eq_true, Bool.not_eq_true'] at hib
    obtain ⟨hiF, hedges⟩ := hib
    have hiF' : L.getD i false = false := by simp [hiL] at hiF ⊢; exact hiF
    have hpre : ∀ e ∈ (ops[i]'hi').after, binds e = true → L.getD e.on false = true := by
      intro e he hb
      have := (Array.all_eq_true'.1 hedges) e he
      simp only [binds] at hb
      simpa [hb] using this
    obtain ⟨T, hT, hst, hgood⟩ := hg i _ (Array.getElem?_eq_getElem hi')
    have hsi := (List.all_eq_true.1 hs) i (by simpa using hi')
    rw [Array.getElem?_eq_getElem hi'] at hsi
    simp only [Option.map_some, Option.getD_some, Bool.and_eq_true] at hsi
    obtain ⟨⟨hlook, hdst⟩, hback⟩ := hsi
    have hstep := hgood a w hJ.ext hJ.defers (by
      intro t ht
      have hl1 := (List.all_eq_true.1 hlook) t ht
      unfold Sees
      cases hw : writer ops t with
      | none => exact hJ.old t (fun j hj => by rw [hw] at hj; cases hj)
      | some j =>
        simp only [hw, Bool.or_eq_true, Bool.and_eq_true, decide_eq_true_eq, beq_iff_eq] at hl1
        simp only []
        split
        · rename_i hji
          rcases hl1 with (⟨_, hb⟩ | ⟨h1, _⟩) | h1
          · simp only [behind, Array.getElem?_eq_getElem hi', Option.map_some, Option.getD_some, Array.any_eq_true', Bool.and_eq_true, beq_iff_eq] at hb
            obtain ⟨e, he, hbe, hon⟩ := hb
            have hLj := hpre e he hbe
            rw [hon] at hLj
            obtain ⟨v, T', h1, h2, h3⟩ := hJ.new j hLj t hw
            refine ⟨v, T', ?_, h2, h3⟩
            rw [List.getElem?_take, if_pos hji]; exact h1
          · omega
          · omega
        · rename_i hji
          refine hJ.old t (fun j' hj' => ?_)
          rw [hw] at hj'; cases hj'
          rcases hl1 with (⟨h1, _⟩ | ⟨_, hb⟩) | h1
          · omega
          · cases hLj : L.getD j false with
            | false => rfl
            | true =>
              exfalso
              have hj := (writer_some hw).1
              simp only [behind, Array.getElem?_eq_getElem hj, Option.map_some, Option.getD_some, Array.any_eq_true', Bool.and_eq_true, beq_iff_eq] at hb
              obtain ⟨e, he, hbe, hon⟩ := hb
              have := hJ.closed j _ hLj (Array.getElem?_eq_getElem hj) e he hbe
              rw [hon, hiF'] at this; cases this
          · rw [h1]; exact hiF')
    have hcount : ((List.range ops.size).filter fun k => !(L.setIfInBounds i true).getD k true).length ≤ fuel := by
      have hlt : ((List.range ops.size).filter fun k => !(L.setIfInBounds i true).getD k true).length < ((List.range ops.size).filter fun k => !L.getD k true).length := by
        have hsub : ((List.range ops.size).filter fun k => !(L.setIfInBounds i true).getD k true) = ((List.range ops.size).filter fun k => !L.getD k true).filter (· != i) := by
          rw [List.filter_filter]
          apply List.filter_congr
          intro k hk
          have hk' : k < ops.size := by simpa using hk
          have hkL : k < L.size := by rw [hJ.size]; exact hk'
          by_cases h : k = i
          · subst h; simp [hkL]
          · simp [h, Array.getElem?_setIfInBounds_ne (Ne.symm h)]
        rw [hsub]
        have hm : i ∈ ((List.range ops.size).filter fun k => !L.getD k true) := by
          rw [List.mem_filter]; exact ⟨hir, by simp [hiF]⟩
        exact List.length_filter_lt_length_iff_exists.2 ⟨i, hm, by simp⟩
      omega
    have hJ' : ∀ v w', Ext w w' → T v w' → J ops a0 w0 Ts (L.setIfInBounds i true) (a.put (ops[i]'hi').dst v) w' := by
      intro v w' hE hTv
      refine ⟨by simpa using hJ.size, ?_, ?_, ?_, hJ.ext.trans hE, ?_, ?_⟩
      · intro j o hj ho e he hb
        rw [getD_set _ _ _ hiL] at hj ⊢
        split
        · rfl
        · split at hj
          · rename_i _ hji
            subst hji
            rw [Array.getElem?_eq_getElem hi'] at ho; cases ho
            exact hpre e he hb
          · exact hJ.closed j o hj ho e he hb
      · cases hd : (ops[i]'hi').dst <;> simpa [Act.put, hd] using hJ.defers
      · cases hd : (ops[i]'hi').dst <;> simpa [Act.put, hd] using hJ.tmps
      · intro t ht
        have hti : (ops[i]'hi').dst ≠ some t := by
          intro hd
          rw [hd] at hdst
          simp only [Bool.and_eq_true, beq_iff_eq] at hdst
          have := ht i hdst.2
          rw [getD_set _ _ _ hiL, if_pos rfl] at this; cases this
        have h1 : (a.put (ops[i]'hi').dst v).tmps[t]? = a.tmps[t]? := by
          cases hd : (ops[i]'hi').dst with
          | none => rfl
          | some d => simp only [Act.put]; exact Array.getElem?_setIfInBounds_ne (fun e => hti (by rw [hd, e]))
        rw [h1]
        refine hJ.old t (fun j hj => ?_)
        have := ht j hj
        rw [getD_set _ _ _ hiL] at this
        split at this
        · cases this
        · exact this
      · intro j hj t ht
        rw [getD_set _ _ _ hiL] at hj
        by_cases hji : j = i
        · subst hji
          have hd := (writer_some ht).2
          rw [Array.getElem?_eq_getElem hi'] at hd
          simp only [Option.bind_some] at hd
          refine ⟨v, T, hT, ?_, hTv⟩
          rw [hd] at hdst ⊢
          simp only [Bool.and_eq_true, decide_eq_true_eq] at hdst
          have : t < a.tmps.size := by rw [hJ.tmps]; exact hdst.1
          simp [Act.put, this]
        · rw [if_neg hji] at hj
          obtain ⟨v', T', h1, h2, h3⟩ := hJ.new j hj t ht
          have hst' : Stable T' := by
            have hjs := (writer_some ht).1
            obtain ⟨T'', h4, h5, _⟩ := hg j _ (Array.getElem?_eq_getElem hjs)
            rw [h1] at h4; cases h4; exact h5
          refine ⟨v', T', h1, ?_, hst' _ _ _ h3 hE⟩
          cases hd : (ops[i]'hi').dst with
          | none => exact h2
          | some d =>
            simp only [Act.put]
            rw [Array.getElem?_setIfInBounds_ne]
            · exact h2
            · intro e
              subst e
              rw [hd] at hdst
              simp only [Bool.and_eq_true, beq_iff_eq] at hdst
              rw [hdst.2] at ht; cases ht; exact hji rfl
    unfold wpOp
    rw [Array.getElem?_eq_getElem hi']
    simp only []
    rcases hstep with ⟨hw, hwp⟩ | ⟨hw, hTu⟩
    · rw [if_pos hw]
      refine .inl (Oper.wp_mono ?_ hwp)
      rintro a' w' ⟨v, rfl, hE, hTv⟩
      exact ih _ _ _ (hJ' v w' hE hTv) hcount
    · rw [if_neg (by rw [hw]; simp)]
      exact ih _ _ _ (hJ' undef w (Ext.refl _) hTu) hcount

/-- the same, what is known kept with the newest ahead -/
def PassR (P : Program) (ops : Array Oper) (Q : Exit → Act → World → Prop) (a0 : Act) (w0 : World) (E : List Kd → Prop) : List Oper → List Kd → Prop
  | [], Rs => E Rs.reverse
  | o :: rest, Rs => ∃ T, Good P ops Q a0 w0 Rs.reverse Rs.length o T ∧ PassR P ops Q a0 w0 E rest (T :: Rs)
theorem pass_of_R {E : List Kd → Prop} : ∀ (l : List Oper) (Rs : List Kd), PassR P ops Q a0 w0 E l Rs → Pass P ops Q a0 w0 E l Rs.reverse
  | [], _, h => h
  | o :: rest, Rs, ⟨T, hg, hp⟩ => ⟨T, by rw [List.length_reverse]; exact hg, by have := pass_of_R rest (T :: Rs) hp; rwa [List.reverse_cons] at this⟩

theorem wp_region_pass {id : Nat} (hm : P.follows .mixedOrders = true) (hs : shape ops a0.tmps.size = true)
    (h : PassR P ops Q a0 w0.drew (fun Ts => ∀ a w, Final ops a0 w0.drew Ts a w → Q .normal a w) ops.toList []) : (Code.region id ops true).wp P Q a0 w0 := by
  obtain ⟨Ts, hend, hl, hg⟩ := pass_get _ _ (pass_of_R _ _ h)
  simp only [List.reverse_nil, List.nil_append, List.length_nil, Nat.zero_add] at hend hg
  refine wp_region_any hm (step_any hs (fun i o hi => hg i o (by simpa using hi)) hend _ _ _ _ ⟨by simp, ?_, rfl, rfl, Ext.refl _, fun t _ => rfl, ?_⟩ (Nat.le_trans (List.length_filter_le _ _) (by simp)))
  · intro j o hj
    exfalso
    by_cases h : j < ops.size <;> simp [h] at hj
  · intro j hj
    exfalso
    by_cases h : j < ops.size <;> simp [h] at hj

/-! ### The steps -/
variable {E : List Kd → Prop} {rest : List Oper} {Rs : List Kd} {o : Oper}

/-- the guard of an operation is met -/
def Met (ops : Array Oper) (Rs : List Kd) (a0 : Act) (o : Oper) : Prop :=
  ∀ a w, (∀ t ∈ o.looksAt ops, Sees ops Rs.reverse a0 Rs.length a w t) → Region.wanted o (yielded ops a.tmps) = true
theorem met_none (h : o.guard = none) : Met ops Rs a0 o := fun a w _ => by simp [Region.wanted, h]
theorem met_some (g : Nat) (b : Bool) (t : Tmp) (h : o.guard = some (g, b)) (hd : (ops[g]?).bind (·.dst) = some t) (hw : writer ops t = some g) (hl : (o.looksAt ops).elem t = true)
    (hg : decide (g < Rs.length) = true) (hT : Rs.reverse[g]? = some (eqs (.bool b))) : Met ops Rs a0 o := fun a w hS => by
  have := hS t (List.mem_of_elem_eq_true hl)
  unfold Sees at this
  rw [hw] at this
  simp only [] at this
  rw [if_pos (of_decide_eq_true hg)] at this
  obtain ⟨v, T, h1, h2, h3⟩ := this
  rw [hT] at h1; cases h1
  have h3' : v = .bool b := h3
  subst h3'
  simp [Region.wanted, h, yielded, hd, h2]

theorem see_new (t j : Nat) {X : Value} {a : Act} {w : World} (hS : ∀ t ∈ o.looksAt ops, Sees ops Rs.reverse a0 Rs.length a w t) (hl : (o.looksAt ops).elem t = true) (hw : writer ops t = some j)
    (hj : decide (j < Rs.length) = true) (hT : Rs.reverse[j]? = some (eqs X)) : a.tmps[t]?.getD undef = X := by
  have := hS t (List.mem_of_elem_eq_true hl)
  unfold Sees at this
  rw [hw] at this
  simp only [] at this
  rw [if_pos (of_decide_eq_true hj)] at this
  obtain ⟨v, T, h1, h2, h3⟩ := this
  rw [hT] at h1; cases h1
  have h3' : v = X := h3
  rw [← h3', h2]; rfl
theorem see_kind (t j : Nat) {T : Kd} {a : Act} {w : World} (hS : ∀ t ∈ o.looksAt ops, Sees ops Rs.reverse a0 Rs.length a w t) (hl : (o.looksAt ops).elem t = true) (hw : writer ops t = some j)
    (hj : decide (j < Rs.length) = true) (hT : Rs.reverse[j]? = some T) : T (a.tmps[t]?.getD undef) w := by
  have := hS t (List.mem_of_elem_eq_true hl)
  unfold Sees at this
  rw [hw] at this
  simp only [] at this
  rw [if_pos (of_decide_eq_true hj)] at this
  obtain ⟨v, T', h1, h2, h3⟩ := this
  rw [hT] at h1; cases h1
  rw [h2]; exact h3
theorem see_old (t : Nat) {X : Value} {a : Act} {w : World} (hS : ∀ t ∈ o.looksAt ops, Sees ops Rs.reverse a0 Rs.length a w t) (hl : (o.looksAt ops).elem t = true)
    (hw : (writer ops t).all (fun j => decide (¬ j < Rs.length)) = true) (hX : a0.tmps.getD t undef = X) : a.tmps[t]?.getD undef = X := by
  have := hS t (List.mem_of_elem_eq_true hl)
  unfold Sees at this
  have h : a.tmps[t]? = a0.tmps[t]? := by
    cases hw' : writer ops t with
    | none => rw [hw'] at this; exact this
    | some j =>
      rw [hw'] at this hw
      simp only [Option.all_some, decide_eq_true_eq] at hw
      simp only [] at this
      rw [if_neg hw] at this
      exact this
  rw [← hX]
  simp only [Array.getD_eq_getD_getElem?, ← h]

theorem pass_step (T : Kd) (hst : Stable T) (hm : Met ops Rs a0 o)
    (h : ∀ a w, Ext w0 w → (∀ t ∈ o.looksAt ops, Sees ops Rs.reverse a0 Rs.length a w t) → o.wp P a w (fun a' w' => ∃ v, a' = a.put o.dst v ∧ Ext w w' ∧ T v w') Q)
    (k : PassR P ops Q a0 w0 E rest (T :: Rs)) : PassR P ops Q a0 w0 E (o :: rest) Rs :=
  ⟨T, ⟨hst, fun a w hE _ hS => .inl ⟨hm a w hS, h a w hE hS⟩⟩, k⟩
/-- an operation that comes to a value that is known, and changes nothing -/
theorem pass_val (X : Value) (hm : Met ops Rs a0 o)
    (h : ∀ a w, Ext w0 w → (∀ t ∈ o.looksAt ops, Sees ops Rs.reverse a0 Rs.length a w t) → (execOp a.eval o).run P w = .ok (.value X) w)
    (k : PassR P ops Q a0 w0 E rest (eqs X :: Rs)) : PassR P ops Q a0 w0 E (o :: rest) Rs :=
  pass_step (eqs X) (stable_eqs X) hm (fun a w hE hS => by
    unfold Oper.wp
    rw [h a w hE hS]
    exact ⟨X, rfl, Ext.refl _, rfl⟩) k
/-- a move of what an operation of this region left -/
theorem pass_copy (t j : Nat) {T : Kd} (hm : Met ops Rs a0 o) (ho : o.op = .move (.tmp t) ∨ o.op = .assign (.tmp t)) (hl : (o.looksAt ops).elem t = true) (hw : writer ops t = some j)
    (hj : decide (j < Rs.length) = true) (hT : Rs.reverse[j]? = some T) (hst : Stable T)
    (k : PassR P ops Q a0 w0 E rest (T :: Rs)) : PassR P ops Q a0 w0 E (o :: rest) Rs :=
  pass_step T hst hm (fun a w hE hS => by
    have h1 := see_kind t j hS hl hw hj hT
    have hrun : (execOp a.eval o).run P w = .ok (.value (a.tmps[t]?.getD undef)) w := by
      rcases ho with h | h <;> simp [execOp, h, Act.eval]
    unfold Oper.wp
    rw [hrun]
    exact ⟨_, rfl, Ext.refl _, h1⟩) k
/-- a move of a slot as it stood ahead of the region -/
theorem pass_old (t : Nat) {X : Value} (hm : Met ops Rs a0 o) (ho : o.op = .move (.tmp t) ∨ o.op = .assign (.tmp t)) (hl : (o.looksAt ops).elem t = true)
    (hw : (writer ops t).all (fun j => decide (¬ j < Rs.length)) = true) (hX : a0.tmps.getD t undef = X)
    (k : PassR P ops Q a0 w0 E rest (eqs X :: Rs)) : PassR P ops Q a0 w0 E (o :: rest) Rs :=
  pass_val X hm (fun a w _ hS => by
    have h1 := see_old t hS hl hw hX
    rcases ho with h | h <;> simp [execOp, h, Act.eval, h1]) k
/-- a call of a Go function -/
theorem wp_call {f : FuncId} {fn : Func} {c : Code} {args : Array Operand} {tys : Array TypeId} {vals : Array Value} {a : Act} {w : World} {K : Act → World → Prop} {R : Ending → World → Prop}
    (ho : o.op = .call { callee := .value (.func f), args := args, argTypes := tys }) (hf : P.funcs[f]? = some fn) (hb : fn.body = some c) (hname : (fn.name == "runtime.NumGoroutine") = false)
    (hv : args.map a.eval = vals) (h : Calls P f vals w R) (hR : ∀ e w', R e w' → ∃ v, e = .returned v ∧ K (a.put o.dst v) w') : o.wp P a w K Q := by
  have h1 : fn.name ≠ "runtime.NumGoroutine" := by simpa using hname
  have hrun : (execOp a.eval o).run P w = .ok (.enter f vals) w := by
    simp [execOp, ho, resolve, Act.eval, Deferred.ofValue, invoke, callFunc, hf, h1, hb]
    exact hv
  unfold Oper.wp
  rw [hrun]
  refine Calls.mono h fun e w' hr => ?_
  obtain ⟨v, rfl, hK⟩ := hR e w' hr
  exact hK

/-- a slice of a new block -/
def built (e : TypeId) (n : Nat) (vals : Array Value) : Kd := fun v w => ∃ b, v = .slice (some ⟨b, 0, none⟩) n n ∧ Blk w b e vals
/-- a slice of new elements -/
theorem stable_built (e : TypeId) (n : Nat) (vals : Array Value) : Stable (built e n vals) := fun _ _ _ ⟨b, h1, h2⟩ h => ⟨b, h1, h2.ext h⟩
theorem pass_build {e : TypeId} {n : Nat} {vals : Array Value} (hm : Met ops Rs a0 o)
    (h : ∀ a w, Ext w0 w → (∀ t ∈ o.looksAt ops, Sees ops Rs.reverse a0 Rs.length a w t) → (execOp a.eval o).run P w = .ok (.value (.slice (some ⟨w.heap.size, 0, none⟩) n n)) (w.alloc (.cells vals e)))
    (k : PassR P ops Q a0 w0 E rest (built e n vals :: Rs)) : PassR P ops Q a0 w0 E (o :: rest) Rs :=
  pass_step (built e n vals) (stable_built _ _ _) hm (fun a w hE hS => by
    unfold Oper.wp
    rw [h a w hE hS]
    exact ⟨_, rfl, (Ext.refl _).alloc _, _, rfl, Blk.new _ _ _⟩) k
/-- the slots behind the region: those that it wrote, and those that it left -/
def sel (f : Tmp → Value) : List (Option Tmp) → List Value → List Value
  | some t :: M, _ :: l => f t :: sel f M l
  | none :: M, v :: l => v :: sel f M l
  | _, l => l
theorem sel_get (f : Tmp → Value) : ∀ (M : List (Option Tmp)) (l : List Value) (k : Nat), k < l.length → M.length = l.length → (sel f M l)[k]? = match M[k]? with | some (some t) => some (f t) | _ => l[k]?
  | [], l, k, h, hl => by simp at hl; rw [← hl] at h; simp at h
  | some t :: M, v :: l, k, h, hl => by
    cases k with
    | zero => rfl
    | succ k => simpa [sel] using sel_get f M l k (by simpa using h) (by simpa using hl)
  | none :: M, v :: l, k, h, hl => by
    cases k with
    | zero => rfl
    | succ k => simpa [sel] using sel_get f M l k (by simpa using h) (by simpa using hl)
  | some _ :: _, [], k, h, _ => by simp at h
  | none :: _, [], k, h, _ => by simp at h
theorem sel_length (f : Tmp → Value) : ∀ (M : List (Option Tmp)) (l : List Value), (sel f M l).length = l.length
  | [], l => by cases l <;> rfl
  | some t :: M, v :: l => by simp [sel, sel_length f M l]
  | none :: M, v :: l => by simp [sel, sel_length f M l]
  | some _ :: _, [] => rfl
  | none :: _, [] => rfl

theorem pass_end {Ts : List Kd} (M : List (Option Tmp)) (hM : (List.range a0.tmps.size).map (fun t => if (writer ops t).isSome then some t else none) = M)
    (h : ∀ (f : Tmp → Value) (w : World), Ext w0 w → (∀ t j T, writer ops t = some j → Ts[j]? = some T → T (f t) w) → Q .normal ⟨(sel f M a0.tmps.toList).toArray, a0.defers⟩ w) :
    ∀ a w, Final ops a0 w0 Ts a w → Q .normal a w := by
  intro a w hF
  have ha : (⟨(sel (fun t => a.tmps[t]?.getD undef) M a0.tmps.toList).toArray, a0.defers⟩ : Act) = a := by
    have e1 : (sel (fun t => a.tmps[t]?.getD undef) M a0.tmps.toList).toArray = a.tmps := by
      have hML : M.length = a0.tmps.toList.length := by rw [← hM]; simp
      apply Array.ext_getElem?
      intro k
      simp only [List.getElem?_toArray]
      by_cases hk : k < a0.tmps.toList.length
      · rw [sel_get _ _ _ _ hk hML, ← hM]
        have hk' : k < a0.tmps.size := by simpa using hk
        have hka : k < a.tmps.size := by rw [hF.tmps]; exact hk'
        simp only [List.getElem?_map, List.getElem?_range hk', Option.map_some]
        cases hw : writer ops k with
        | none => simp only [Option.isSome_none, Bool.false_eq_true, if_false]; rw [hF.old k hw]; simp
        | some j => simp [hka]
      · rw [List.getElem?_eq_none (by rw [sel_length]; omega), Array.getElem?_eq_none (by rw [hF.tmps]; simpa using hk)]
    cases a
    simp only [Act.mk.injEq]
    exact ⟨e1, hF.defers.symm⟩
  have := h (fun t => a.tmps[t]?.getD undef) w hF.ext (by
    intro t j T hw hT
    obtain ⟨v, T', h1, h2, h3⟩ := hF.new t j hw
    rw [hT] at h1; cases h1
    simp only [h2, Option.getD_some]; exact h3)
  rw [ha] at this
  exact this
end
end Reg
end Go.Proofs.YtpellkblaeeopaaGreatDoor
