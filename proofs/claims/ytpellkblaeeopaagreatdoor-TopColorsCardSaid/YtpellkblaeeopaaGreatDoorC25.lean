/-
  Parts: RegD GcD.
-/
import Derived.Test.YtpellkblaeeopaaGreatDoorC01
import Derived.Deep.Draws
import Derived.Sort.Grow
import Derived.Test.YtpellkblaeeopaaGreatDoorC09
/-
  XRegion's law once more, for a relation that also says that no draw is taken back (the kit's contract of a sort asks the world behind a comparison to the letter).
-/
namespace Go.Proofs.YtpellkblaeeopaaGreatDoor
open Go.RowKit

def ExtD (w w' : World) : Prop := Ext w w' ∧ w.drawn ≤ w'.drawn
theorem ExtD.refl (w : World) : ExtD w w := ⟨Ext.refl _, Nat.le_refl _⟩
theorem ExtD.trans {a b c : World} (h : ExtD a b) (k : ExtD b c) : ExtD a c := ⟨h.1.trans k.1, Nat.le_trans h.2 k.2⟩
theorem ExtD.alloc {a b : World} (h : ExtD a b) (o : Obj) : ExtD a (b.alloc o) := ⟨h.1.alloc o, h.2⟩
theorem ExtD.drew {a b : World} (h : ExtD a b) : ExtD a b.drew := ⟨h.1.drew, Nat.le_succ_of_le h.2⟩

namespace RegD

abbrev Kd := Value → World → Prop
def eqs (x : Value) : Kd := fun v _ => v = x
def Stable (T : Kd) : Prop := ∀ v w w', T v w → ExtD w w' → T v w'
theorem stable_eqs (x : Value) : Stable (eqs x) := fun _ _ _ h _ => h

def binds (e : Edge) : Bool := Region.binds .any e
/-- which operation writes a slot -/
def writer (ops : Array Oper) (t : Tmp) : Option Nat := (List.range ops.size).find? fun j => (ops[j]?).bind (·.dst) == some t
def behind (ops : Array Oper) (j i : Nat) : Bool := ((ops[j]?).map (·.after.any fun e => binds e && e.on == i)).getD false
/-- the form that the law asks: every slot that an operation looks at is written ahead of it (by an edge), or behind it (by an edge), or by none; each slot is written once; edges lead back -/
def shape (ops : Array Oper) (N : Nat) : Bool :=
  (List.range ops.size).all fun i => ((ops[i]?).map fun o =>
    ((o.looksAt ops).all fun t => match writer ops t with | none => true | some j => (decide (j < i) && behind ops i j) || (decide (i < j) && behind ops j i) || j == i) &&
    (match o.dst with | none => true | some t => decide (t < N) && writer ops t == some i) && (o.after.all fun e => !binds e || decide (e.on < i))).getD true

/-- what an operation sees in a slot -/
def Sees (ops : Array Oper) (Ts : List Kd) (a0 : Act) (i : Nat) (a : Act) (w : World) (t : Tmp) : Prop :=
  match writer ops t with
  | none => a.tmps[t]? = a0.tmps[t]?
  | some j => if j < i then ∃ v T, Ts[j]? = some T ∧ a.tmps[t]? = some v ∧ T v w else a.tmps[t]? = a0.tmps[t]?

section
variable {P : Program} {ops : Array Oper} {Q : Exit → Act → World → Prop} {a0 : Act} {w0 : World}

def Step (P : Program) (ops : Array Oper) (Q : Exit → Act → World → Prop) (o : Oper) (T : Kd) (a : Act) (w : World) : Prop :=
  (Region.wanted o (yielded ops a.tmps) = true ∧ o.wp P a w (fun a' w' => ∃ v, a' = a.put o.dst v ∧ ExtD w w' ∧ T v w') Q) ∨
  (Region.wanted o (yielded ops a.tmps) = false ∧ T undef w)

def Good (P : Program) (ops : Array Oper) (Q : Exit → Act → World → Prop) (a0 : Act) (w0 : World) (Ts : List Kd) (i : Nat) (o : Oper) (T : Kd) : Prop :=
  Stable T ∧ ∀ a w, ExtD w0 w → a.defers = a0.defers → (∀ t ∈ o.looksAt ops, Sees ops Ts a0 i a w t) → Step P ops Q o T a w

/-- one pass in the order of the text -/
def Pass (P : Program) (ops : Array Oper) (Q : Exit → Act → World → Prop) (a0 : Act) (w0 : World) (E : List Kd → Prop) : List Oper → List Kd → Prop
  | [], Ts => E Ts
  | o :: rest, Ts => ∃ T, Good P ops Q a0 w0 Ts Ts.length o T ∧ Pass P ops Q a0 w0 E rest (Ts ++ [T])

structure J (ops : Array Oper) (a0 : Act) (w0 : World) (Ts : List Kd) (L : Array Bool) (a : Act) (w : World) : Prop where
  size : L.size = ops.size
  closed : ∀ j o, L.getD j false = true → ops[j]? = some o → ∀ e ∈ o.after, binds e = true → L.getD e.on false = true
  defers : a.defers = a0.defers
  tmps : a.tmps.size = a0.tmps.size
  ext : ExtD w0 w
  old : ∀ t, (∀ j, writer ops t = some j → L.getD j false = false) → a.tmps[t]? = a0.tmps[t]?
  new : ∀ j, L.getD j false = true → ∀ t, writer ops t = some j → ∃ v T, Ts[j]? = some T ∧ a.tmps[t]? = some v ∧ T v w

/-- what stands behind the region -/
structure Final (ops : Array Oper) (a0 : Act) (w0 : World) (Ts : List Kd) (a : Act) (w : World) : Prop where
  defers : a.defers = a0.defers
  tmps : a.tmps.size = a0.tmps.size
  ext : ExtD w0 w
  old : ∀ t, writer ops t = none → a.tmps[t]? = a0.tmps[t]?
  new : ∀ t j, writer ops t = some j → ∃ v T, Ts[j]? = some T ∧ a.tmps[t]? = some v ∧ T v w

theorem writer_some {t : Tmp} {j : Nat} (h : writer ops t = some j) : j < ops.size ∧ (ops[j]?).bind (·.dst) = some t := by
  unfold writer at h
  have h1 := List.find?_some h
  have h2 := List.mem_of_find?_eq_some h
  exact ⟨by simpa using h2, by simpa using h1⟩

theorem pass_get {E : List Kd → Prop} : ∀ (l : List Oper) (Ts : List Kd), Pass P ops Q a0 w0 E l Ts →
    ∃ Us, E (Ts ++ Us) ∧ Us.length = l.length ∧ ∀ i o, l[i]? = some o → ∃ T, Us[i]? = some T ∧ Good P ops Q a0 w0 (Ts ++ Us.take i) (Ts.length + i) o T
  | [], Ts, h => ⟨[], by simpa [Pass] using h, rfl, fun i o h => by simp at h⟩
  | o :: rest, Ts, ⟨T, hg, hp⟩ => by
    obtain ⟨Us, hE, hl, hU⟩ := pass_get rest (Ts ++ [T]) hp
    refine ⟨T :: Us, by simpa using hE, by simp [hl], fun i o' hi => ?_⟩
    cases i with
    | zero =>
      simp at hi; subst hi
      exact ⟨T, rfl, by simpa using hg⟩
    | succ i =>
      simp at hi
      obtain ⟨T', h1, h2⟩ := hU i o' hi
      refine ⟨T', by simpa using h1, ?_⟩
      have e : Ts ++ [T] ++ Us.take i = Ts ++ (T :: Us).take (i + 1) := by simp
      have e2 : (Ts ++ [T]).length + i = Ts.length + (i + 1) := by simp; omega
      rw [e, e2] at h2; exact h2

theorem getD_set (L : Array Bool) (i j : Nat) (hi : i < L.size) : (L.setIfInBounds i true).getD j false = (if j = i then true else L.getD j false) := by
  by_cases h : j = i
  · subst h; simp [hi]
  · simp [h, Array.getElem?_setIfInBounds_ne (Ne.symm h)]

theorem step_any (hs : shape ops a0.tmps.size = true) {Ts : List Kd}
    (hg : ∀ i o, ops[i]? = some o → ∃ T, Ts[i]? = some T ∧ Good P ops Q a0 w0 (Ts.take i) i o T)
    (hend : ∀ a w, Final ops a0 w0 Ts a w → Q .normal a w) :
    ∀ (fuel : Nat) (L : Array Bool) (a : Act) (w : World), J ops a0 w0 Ts L a w → ((List.range ops.size).filter fun i => !L.getD i true).length ≤ fuel → wpAny P .any ops Q fuel L a w := by
  have hclose : ∀ (L : Array Bool) (a : Act) (w : World), J ops a0 w0 Ts L a w → Region.ready .any ops L = [] → ∀ j, j < ops.size → L.getD j false = true := by
    intro L a w hJ hr j
    induction j using Nat.strongRecOn with
    | _ j ih =>
      intro hj
      cases hL : L.getD j false with
      | true => rfl
      | false =>
        exfalso
        have hmem : j ∈ Region.ready .any ops L := by
          unfold Region.ready
          rw [List.mem_filter]
          refine ⟨by simpa using hj, ?_⟩
          have hjL : j < L.size := by rw [hJ.size]; exact hj
          have h1 : L.getD j true = false := by
            simp [hjL] at hL ⊢; exact hL
          rw [h1, Array.getElem?_eq_getElem hj]
          simp only [Bool.not_false, Option.map_some, Option.getD_some, Bool.true_and, Array.all_eq_true]
          intro k hk
          have hsj := (List.all_eq_true.1 hs) j (by simpa using hj)
          rw [Array.getElem?_eq_getElem hj] at hsj
          simp only [Option.map_some, Option.getD_some, Bool.and_eq_true] at hsj
          have he := (Array.all_eq_true.1 hsj.2) k hk
          simp only [binds, Bool.or_eq_true, Bool.not_eq_true', decide_eq_true_eq] at he
          rcases he with he | he
          · simp [he]
          · rw [ih _ he (by omega)]; simp
        rw [hr] at hmem
        cases hmem
  have hfin : ∀ (L : Array Bool) (a : Act) (w : World), J ops a0 w0 Ts L a w → Region.ready .any ops L = [] → Q .normal a w := by
    intro L a w hJ hr
    refine hend a w ⟨hJ.defers, hJ.tmps, hJ.ext, fun t ht => hJ.old t (fun j hj => by rw [ht] at hj; cases hj), fun t j hj => hJ.new j (hclose L a w hJ hr j (writer_some hj).1) t hj⟩
  intro fuel
  induction fuel with
  | zero =>
    intro L a w hJ hf
    have hr : Region.ready .any ops L = [] := by
      have h0 : ((List.range ops.size).filter fun i => !L.getD i true) = [] := List.eq_nil_of_length_eq_zero (by omega)
      unfold Region.ready
      apply List.eq_nil_iff_forall_not_mem.2
      intro i hi
      rw [List.mem_filter] at hi
      have : i ∈ ((List.range ops.size).filter fun i => !L.getD i true) := by
        rw [List.mem_filter]
        exact ⟨hi.1, (Bool.and_eq_true _ _ ▸ hi.2).1⟩
      rw [h0] at this; cases this
    exact ⟨hr, hfin L a w hJ hr⟩
  | succ fuel ih =>
    intro L a w hJ hf
    refine ⟨hfin L a w hJ, fun i hi => ?_⟩
    unfold Region.ready at hi
    rw [List.mem_filter] at hi
    obtain ⟨hir, hib⟩ := hi
    have hi' : i < ops.size := by simpa using hir
    have hiL : i < L.size := by rw [hJ.size]; exact hi'
    rw [Array.getElem?_eq_getElem hi'] at hib
    simp only [Option.map_some, Option.getD_some, Bool.and_eq_true, Bool.not_eq_true'] at hib
    obtain ⟨hiF, hedges⟩ := hib
    have hiF' : L.getD i false = false := by simp [hiL] at hiF ⊢; exact hiF
    have hpre : ∀ e ∈ (ops[i]'hi').after, binds e = true → L.getD e.on false = true := by
      intro e he hb
      have := (Array.all_eq_true'.1 hedges) e he
      simp only [binds] at hb
      simpa [hb] using this
    obtain ⟨T, hT, hst, hgood⟩ := hg i _ (Array.getElem?_eq_getElem hi')
    have hsi := (List.all_eq_true.1 hs) i (by simpa using hi')
    rw [Array.getElem?_eq_getElem hi'] at hsi
    simp only [Option.map_some, Option.getD_some, Bool.and_eq_true] at hsi
    obtain ⟨⟨hlook, hdst⟩, hback⟩ := hsi
    have hstep := hgood a w hJ.ext hJ.defers (by
      intro t ht
      have hl1 := (List.all_eq_true.1 hlook) t ht
      unfold Sees
      cases hw : writer ops t with
      | none => exact hJ.old t (fun j hj => by rw [hw] at hj; cases hj)
      | some j =>
        simp only [hw, Bool.or_eq_true, Bool.and_eq_true, decide_eq_true_eq, beq_iff_eq] at hl1
        simp only []
        split
        · rename_i hji
          rcases hl1 with (⟨_, hb⟩ | ⟨h1, _⟩) | h1
          · simp only [behind, Array.getElem?_eq_getElem hi', Option.map_some, Option.getD_some, Array.any_eq_true', Bool.and_eq_true, beq_iff_eq] at hb
            obtain ⟨e, he, hbe, hon⟩ := hb
            have hLj := hpre e he hbe
            rw [hon] at hLj
            obtain ⟨v, T', h1, h2, h3⟩ := hJ.new j hLj t hw
            refine ⟨v, T', ?_, h2, h3⟩
            rw [List.getElem?_take, if_pos hji]; exact h1
          · omega
          · omega
        · rename_i hji
          refine hJ.old t (fun j' hj' => ?_)
          rw [hw] at hj'; cases hj'
          rcases hl1 with (⟨h1, _⟩ | ⟨_, hb⟩) | h1
          · omega
          · cases hLj : L.getD j false with
            | false => rfl
            | true =>
              exfalso
              have hj := (writer_some hw).1
              simp only [behind, Array.getElem?_eq_getElem hj, Option.map_some, Option.getD_some, Array.any_eq_true', Bool.and_eq_true, beq_iff_eq] at hb
              obtain ⟨e, he, hbe, hon⟩ := hb
              have := hJ.closed j _ hLj (Array.getElem?_eq_getElem hj) e he hbe
              rw [hon, hiF'] at this; cases this
          · rw [h1]; exact hiF')
    have hcount : ((List.range ops.size).filter fun k => !(L.setIfInBounds i true).getD k true).length ≤ fuel := by
      have hlt : ((List.range ops.size).filter fun k => !(L.setIfInBounds i true).getD k true).length < ((List.range ops.size).filter fun k => !L.getD k true).length := by
        have hsub : ((List.range ops.size).filter fun k => !(L.setIfInBounds i true).getD k true) = ((List.range ops.size).filter fun k => !L.getD k true).filter (· != i) := by
          rw [List.filter_filter]
          apply List.filter_congr
          intro k hk
          have hk' : k < ops.size := by simpa using hk
          have hkL : k < L.size := by rw [hJ.size]; exact hk'
          by_cases h : k = i
          · subst h; simp [hkL]
          · simp [h, Array.getElem?_setIfInBounds_ne (Ne.symm h)]
        rw [hsub]
        have hm : i ∈ ((List.range ops.size).filter fun k => !L.getD k true) := by
          rw [List.mem_filter]; exact ⟨hir, by simp [hiF]⟩
        exact List.length_filter_lt_length_iff_exists.2 ⟨i, hm, by simp⟩
      omega
    have hJ' : ∀ v w', ExtD w w' → T v w' → J ops a0 w0 Ts (L.setIfInBounds i true) (a.put (ops[i]'hi').dst v) w' := by
      intro v w' hE hTv
      refine ⟨by simpa using hJ.size, ?_, ?_, ?_, hJ.ext.trans hE, ?_, ?_⟩
      · intro j o hj ho e he hb
        rw [getD_set _ _ _ hiL] at hj ⊢
        split
        · rfl
        · split at hj
          · rename_i _ hji
            subst hji
            rw [Array.getElem?_eq_getElem hi'] at ho; cases ho
            exact hpre e he hb
          · exact hJ.closed j o hj ho e he hb
      · cases hd : (ops[i]'hi').dst <;> simpa [Act.put, hd] using hJ.defers
      · cases hd : (ops[i]'hi').dst <;> simpa [Act.put, hd] using hJ.tmps
      · intro t ht
        have hti : (ops[i]'hi').dst ≠ some t := by
          intro hd
          rw [hd] at hdst
          simp only [Bool.and_eq_true, beq_iff_eq] at hdst
          have := ht i hdst.2
          rw [getD_set _ _ _ hiL, if_pos rfl] at this; cases this
        have h1 : (a.put (ops[i]'hi').dst v).tmps[t]? = a.tmps[t]? := by
          cases hd : (ops[i]'hi').dst with
          | none => rfl
          | some d => simp only [Act.put]; exact Array.getElem?_setIfInBounds_ne (fun e => hti (by rw [hd, e]))
        rw [h1]
        refine hJ.old t (fun j hj => ?_)
        have := ht j hj
        rw [getD_set _ _ _ hiL] at this
        split at this
        · cases this
        · exact this
      · intro j hj t ht
        rw [getD_set _ _ _ hiL] at hj
        by_cases hji : j = i
        · subst hji
          have hd := (writer_some ht).2
          rw [Array.getElem?_eq_getElem hi'] at hd
          simp only [Option.bind_some] at hd
          refine ⟨v, T, hT, ?_, hTv⟩
          rw [hd] at hdst ⊢
          simp only [Bool.and_eq_true, decide_eq_true_eq] at hdst
          have : t < a.tmps.size := by rw [hJ.tmps]; exact hdst.1
          simp [Act.put, this]
        · rw [if_neg hji] at hj
          obtain ⟨v', T', h1, h2, h3⟩ := hJ.new j hj t ht
          have hst' : Stable T' := by
            have hjs := (writer_some ht).1
            obtain ⟨T'', h4, h5, _⟩ := hg j _ (Array.getElem?_eq_getElem hjs)
            rw [h1] at h4; cases h4; exact h5
          refine ⟨v', T', h1, ?_, hst' _ _ _ h3 hE⟩
          cases hd : (ops[i]'hi').dst with
          | none => exact h2
          | some d =>
            simp only [Act.put]
            rw [Array.getElem?_setIfInBounds_ne]
            · exact h2
            · intro e
              subst e
              rw [hd] at hdst
              simp only [Bool.and_eq_true, beq_iff_eq] at hdst
              rw [hdst.2] at ht; cases ht; exact hji rfl
    unfold wpOp
    rw [Array.getElem?_eq_getElem hi']
    simp only []
    rcases hstep with ⟨hw, hwp⟩ | ⟨hw, hTu⟩
    · rw [if_pos hw]
      refine .inl (Oper.wp_mono ?_ hwp)
      rintro a' w' ⟨v, rfl, hE, hTv⟩
      exact ih _ _ _ (hJ' v w' hE hTv) hcount
    · rw [if_neg (by rw [hw]; simp)]
      exact ih _ _ _ (hJ' undef w (ExtD.refl _) hTu) hcount

/-- the same, what is known kept with the newest ahead -/
def PassR (P : Program) (ops : Array Oper) (Q : Exit → Act → World → Prop) (a0 : Act) (w0 : World) (E : List Kd → Prop) : List Oper → List Kd → Prop
  | [], Rs => E Rs.reverse
  | o :: rest, Rs => ∃ T, Good P ops Q a0 w0 Rs.reverse Rs.length o T ∧ PassR P ops Q a0 w0 E rest (T :: Rs)
theorem pass_of_R {E : List Kd → Prop} : ∀ (l : List Oper) (Rs : List Kd), PassR P ops Q a0 w0 E l Rs → Pass P ops Q a0 w0 E l Rs.reverse
  | [], _, h => h
  | o :: rest, Rs, ⟨T, hg, hp⟩ => ⟨T, by rw [List.length_reverse]; exact hg, by have := pass_of_R rest (T :: Rs) hp; rwa [List.reverse_cons] at this⟩

theorem wp_region_pass {id : Nat} (hm : P.follows .mixedOrders = true) (hs : shape ops a0.tmps.size = true)
    (h : PassR P ops Q a0 w0.drew (fun Ts => ∀ a w, Final ops a0 w0.drew Ts a w → Q .normal a w) ops.toList []) : (Code.region id ops true).wp P Q a0 w0 := by
  obtain ⟨Ts, hend, hl, hg⟩ := pass_get _ _ (pass_of_R _ _ h)
  simp only [List.reverse_nil, List.nil_append, List.length_nil, Nat.zero_add] at hend hg
  refine wp_region_any hm (step_any hs (fun i o hi => hg i o (by simpa using hi)) hend _ _ _ _ ⟨by simp, ?_, rfl, rfl, ExtD.refl _, fun t _ => rfl, ?_⟩ (Nat.le_trans (List.length_filter_le _ _) (by simp)))
  · intro j o hj
    exfalso
    by_cases h : j < ops.size <;> simp [h] at hj
  · intro j hj
    exfalso
    by_cases h : j < ops.size <;> simp [h] at hj

/-! ### The steps -/
variable {E : List Kd → Prop} {rest : List Oper} {Rs : List Kd} {o : Oper}

/-- the guard of an operation is met -/
def Met (ops : Array Oper) (Rs : List Kd) (a0 : Act) (o : Oper) : Prop :=
  ∀ a w, (∀ t ∈ o.looksAt ops, Sees ops Rs.reverse a0 Rs.length a w t) → Region.wanted o (yielded ops a.tmps) = true
theorem met_none (h : o.guard = none) : Met ops Rs a0 o := fun a w _ => by simp [Region.wanted, h]
theorem met_some (g : Nat) (b : Bool) (t : Tmp) (h : o.guard = some (g, b)) (hd : (ops[g]?).bind (·.dst) = some t) (hw : writer ops t = some g) (hl : (o.looksAt ops).elem t = true)
    (hg : decide (g < Rs.length) = true) (hT : Rs.reverse[g]? = some (eqs (.bool b))) : Met ops Rs a0 o := fun a w hS => by
  have := hS t (List.mem_of_elem_eq_true hl)
  unfold Sees at this
  rw [hw] at this
  simp only [] at this
  rw [if_pos (of_decide_eq_true hg)] at this
  obtain ⟨v, T, h1, h2, h3⟩ := this
  rw [hT] at h1; cases h1
  have h3' : v = .bool b := h3
  subst h3'
  simp [Region.wanted, h, yielded, hd, h2]

theorem see_new (t j : Nat) {X : Value} {a : Act} {w : World} (hS : ∀ t ∈ o.looksAt ops, Sees ops Rs.reverse a0 Rs.length a w t) (hl : (o.looksAt ops).elem t = true) (hw : writer ops t = some j)
    (hj : decide (j < Rs.length) = true) (hT : Rs.reverse[j]? = some (eqs X)) : a.tmps[t]?.getD undef = X := by
  have := hS t (List.mem_of_elem_eq_true hl)
  unfold Sees at this
  rw [hw] at this
  simp only [] at this
  rw [if_pos (of_decide_eq_true hj)] at this
  obtain ⟨v, T, h1, h2, h3⟩ := this
  rw [hT] at h1; cases h1
  have h3' : v = X := h3
  rw [← h3', h2]; rfl
theorem see_kind (t j : Nat) {T : Kd} {a : Act} {w : World} (hS : ∀ t ∈ o.looksAt ops, Sees ops Rs.reverse a0 Rs.length a w t) (hl : (o.looksAt ops).elem t = true) (hw : writer ops t = some j)
    (hj : decide (j < Rs.length) = true) (hT : Rs.reverse[j]? = some T) : T (a.tmps[t]?.getD undef) w := by
  have := hS t (List.mem_of_elem_eq_true hl)
  unfold Sees at this
  rw [hw] at this
  simp only [] at this
  rw [if_pos (of_decide_eq_true hj)] at this
  obtain ⟨v, T', h1, h2, h3⟩ := this
  rw [hT] at h1; cases h1
  rw [h2]; exact h3
theorem see_old (t : Nat) {X : Value} {a : Act} {w : World} (hS : ∀ t ∈ o.looksAt ops, Sees ops Rs.reverse a0 Rs.length a w t) (hl : (o.looksAt ops).elem t = true)
    (hw : (writer ops t).all (fun j => decide (¬ j < Rs.length)) = true) (hX : a0.tmps.getD t undef = X) : a.tmps[t]?.getD undef = X := by
  have := hS t (List.mem_of_elem_eq_true hl)
  unfold Sees at this
  have h : a.tmps[t]? = a0.tmps[t]? := by
    cases hw' : writer ops t with
    | none => rw [hw'] at this; exact this
    | some j =>
      rw [hw'] at this hw
      simp only [Option.all_some, decide_eq_true_eq] at hw
      simp only [] at this
      rw [if_neg hw] at this
      exact this
  rw [← hX]
  simp only [Array.getD_eq_getD_getElem?, ← h]

theorem pass_step (T : Kd) (hst : Stable T) (hm : Met ops Rs a0 o)
    (h : ∀ a w, ExtD w0 w → (∀ t ∈ o.looksAt ops, Sees ops Rs.reverse a0 Rs.length a w t) → o.wp P a w (fun a' w' => ∃ v, a' = a.put o.dst v ∧ ExtD w w' ∧ T v w') Q)
    (k : PassR P ops Q a0 w0 E rest (T :: Rs)) : PassR P ops Q a0 w0 E (o :: rest) Rs :=
  ⟨T, ⟨hst, fun a w hE _ hS => .inl ⟨hm a w hS, h a w hE hS⟩⟩, k⟩
/-- an operation that comes to a value that is known, and changes nothing -/
theorem pass_val (X : Value) (hm : Met ops Rs a0 o)
    (h : ∀ a w, ExtD w0 w → (∀ t ∈ o.looksAt ops, Sees ops Rs.reverse a0 Rs.length a w t) → (execOp a.eval o).run P w = .ok (.value X) w)
    (k : PassR P ops Q a0 w0 E rest (eqs X :: Rs)) : PassR P ops Q a0 w0 E (o :: rest) Rs :=
  pass_step (eqs X) (stable_eqs X) hm (fun a w hE hS => by
    unfold Oper.wp
    rw [h a w hE hS]
    exact ⟨X, rfl, ExtD.refl _, rfl⟩) k
/-- a move of what an operation of this region left -/
theorem pass_copy (t j : Nat) {T : Kd} (hm : Met ops Rs a0 o) (ho : o.op = .move (.tmp t) ∨ o.op = .assign (.tmp t)) (hl : (o.looksAt ops).elem t = true) (hw : writer ops t = some j)
    (hj : decide (j < Rs.length) = true) (hT : Rs.reverse[j]? = some T) (hst : Stable T)
    (k : PassR P ops Q a0 w0 E rest (T :: Rs)) : PassR P ops Q a0 w0 E (o :: rest) Rs :=
  pass_step T hst hm (fun a w hE hS => by
    have h1 := see_kind t j hS hl hw hj hT
    have hrun : (execOp a.eval o).run P w = .ok (.value (a.tmps[t]?.getD undef)) w := by
      rcases ho with h | h <;> simp [execOp, h, Act.eval]
    unfold Oper.wp
    rw [hrun]
    exact ⟨_, rfl, ExtD.refl _, h1⟩) k
/-- a move of a slot as it stood ahead of the region -/
theorem pass_old (t : Nat) {X : Value} (hm : Met ops Rs a0 o) (ho : o.op = .move (.tmp t) ∨ o.op = .assign (.tmp t)) (hl : (o.looksAt ops).elem t = true)
    (hw : (writer ops t).all (fun j => decide (¬ j < Rs.length)) = true) (hX : a0.tmps.getD t undef = X)
    (k : PassR P ops Q a0 w0 E rest (eqs X :: Rs)) : PassR P ops Q a0 w0 E (o :: rest) Rs :=
  pass_val X hm (fun a w _ hS => by
    have h1 := see_old t hS hl hw hX
    rcases ho with h | h <;> simp [execOp, h, Act.eval, h1]) k
/-- a call of a Go function -/
theorem wp_call {f : FuncId} {fn : Func} {c : Code} {args : Array Operand} {tys : Array TypeId} {vals : Array Value} {a : Act} {w : World} {K : Act → World → Prop} {R : Ending → World → Prop}
    (ho : o.op = .call { callee := .value (.func f), args := args, argTypes := tys }) (hf : P.funcs[f]? = some fn) (hb : fn.body = some c) (hname : (fn.name == "runtime.NumGoroutine") = false)
    (hv : args.map a.eval = vals) (h : Calls P f vals w R) (hR : ∀ e w', R e w' → ∃ v, e = .returned v ∧ K (a.put o.dst v) w') : o.wp P a w K Q := by
  have h1 : fn.name ≠ "runtime.NumGoroutine" := by simpa using hname
  have hrun : (execOp a.eval o).run P w = .ok (.enter f vals) w := by
    simp [execOp, ho, resolve, Act.eval, Deferred.ofValue, invoke, callFunc, hf, h1, hb]
    exact hv
  unfold Oper.wp
  rw [hrun]
  refine Calls.mono h fun e w' hr => ?_
  obtain ⟨v, rfl, hK⟩ := hR e w' hr
  exact hK

/-- a slice of a new block -/
def built (e : TypeId) (n : Nat) (vals : Array Value) : Kd := fun v w => ∃ b, v = .slice (some ⟨b, 0, none⟩) n n ∧ Blk w b e vals
/-- a slice of new elements -/
theorem stable_built (e : TypeId) (n : Nat) (vals : Array Value) : Stable (built e n vals) := fun _ _ _ ⟨b, h1, h2⟩ h => ⟨b, h1, h2.ext h.1⟩
theorem pass_build {e : TypeId} {n : Nat} {vals : Array Value} (hm : Met ops Rs a0 o)
    (h : ∀ a w, ExtD w0 w → (∀ t ∈ o.looksAt ops, Sees ops Rs.reverse a0 Rs.length a w t) → (execOp a.eval o).run P w = .ok (.value (.slice (some ⟨w.heap.size, 0, none⟩) n n)) (w.alloc (.cells vals e)))
    (k : PassR P ops Q a0 w0 E rest (built e n vals :: Rs)) : PassR P ops Q a0 w0 E (o :: rest) Rs :=
  pass_step (built e n vals) (stable_built _ _ _) hm (fun a w hE hS => by
    unfold Oper.wp
    rw [h a w hE hS]
    exact ⟨_, rfl, (ExtD.refl _).alloc _, _, rfl, Blk.new _ _ _⟩) k
/-- the slots behind the region: those that it wrote, and those that it left -/
def sel (f : Tmp → Value) : List (Option Tmp) → List Value → List Value
  | some t :: M, _ :: l => f t :: sel f M l
  | none :: M, v :: l => v :: sel f M l
  | _, l => l
theorem sel_get (f : Tmp → Value) : ∀ (M : List (Option Tmp)) (l : List Value) (k : Nat), k < l.length → M.length = l.length → (sel f M l)[k]? = match M[k]? with | some (some t) => some (f t) | _ => l[k]?
  | [], l, k, h, hl => by simp at hl; rw [← hl] at h; simp at h
  | some t :: M, v :: l, k, h, hl => by
    cases k with
    | zero => rfl
    | succ k => simpa [sel] using sel_get f M l k (by simpa using h) (by simpa using hl)
  | none :: M, v :: l, k, h, hl => by
    cases k with
    | zero => rfl
    | succ k => simpa [sel] using sel_get f M l k (by simpa using h) (by simpa using hl)
  | some _ :: _, [], k, h, _ => by simp at h
  | none :: _, [], k, h, _ => by simp at h
theorem sel_length (f : Tmp → Value) : ∀ (M : List (Option Tmp)) (l : List Value), (sel f M l).length = l.length
  | [], l => by cases l <;> rfl
  | some t :: M, v :: l => by simp [sel, sel_length f M l]
  | none :: M, v :: l => by simp [sel, sel_length f M l]
  | some _ :: _, [] => rfl
  | none :: _, [] => rfl

theorem pass_end {Ts : List Kd} (M : List (Option Tmp)) (hM : (List.range a0.tmps.size).map (fun t => if (writer ops t).isSome then some t else none) = M)
    (h : ∀ (f : Tmp → Value) (w : World), ExtD w0 w → (∀ t j T, writer ops t = some j → Ts[j]? = some T → T (f t) w) → Q .normal ⟨(sel f M a0.tmps.toList).toArray, a0.defers⟩ w) :
    ∀ a w, Final ops a0 w0 Ts a w → Q .normal a w := by
  intro a w hF
  have ha : (⟨(sel (fun t => a.tmps[t]?.getD undef) M a0.tmps.toList).toArray, a0.defers⟩ : Act) = a := by
    have e1 : (sel (fun t => a.tmps[t]?.getD undef) M a0.tmps.toList).toArray = a.tmps := by
      have hML : M.length = a0.tmps.toList.length := by rw [← hM]; simp
      apply Array.ext_getElem?
      intro k
      simp only [List.getElem?_toArray]
      by_cases hk : k < a0.tmps.toList.length
      · rw [sel_get _ _ _ _ hk hML, ← hM]
        have hk' : k < a0.tmps.size := by simpa using hk
        have hka : k < a.tmps.size := by rw [hF.tmps]; exact hk'
        simp only [List.getElem?_map, List.getElem?_range hk', Option.map_some]
        cases hw : writer ops k with
        | none => simp only [Option.isSome_none, Bool.false_eq_true, if_false]; rw [hF.old k hw]; simp
        | some j => simp [hka]
      · rw [List.getElem?_eq_none (by rw [sel_length]; omega), Array.getElem?_eq_none (by rw [hF.tmps]; simpa using hk)]
    cases a
    simp only [Act.mk.injEq]
    exact ⟨e1, hF.defers.symm⟩
  have := h (fun t => a.tmps[t]?.getD undef) w hF.ext (by
    intro t j T hw hT
    obtain ⟨v, T', h1, h2, h3⟩ := hF.new t j hw
    rw [hT] at h1; cases h1
    simp only [h2, Option.getD_some]; exact h3)
  rw [ha] at this
  exact this
end
end RegD
end Go.Proofs.YtpellkblaeeopaaGreatDoor
/-
  Walks: cmp.Compare[uint64], cmp.Or, the comparison that span.merged sorts by.
-/
namespace Go.Proofs.YtpellkblaeeopaaGreatDoor
open Go.RowKit

def cmpV (x y : Nat) : Int := if x < y then -1 else if y < x then 1 else 0
/-- a stretch's ends, compared -/
abbrev En := Nat × Nat
def endsV (x y : En) : Int := if cmpV x.1 y.1 ≠ 0 then cmpV x.1 y.1 else cmpV x.2 y.2
def enC (x : En) : List Value := [.int .u64 (x.1 : Int), .int .u64 (x.2 : Int)]
set_option maxRecDepth 100000 in
theorem isNaN_any (x : Nat) (w : World) : Calls Tryz.prog 108 #[.int .u64 (x : Int)] w fun e w' => e = .returned (.bool false) ∧ w' = w := by
  go_enter Tryz.func108, Tryz.ntmps108
  go_wp2
  go_ret
  exact ⟨rfl, rfl⟩
set_option maxRecDepth 100000 in
theorem cmpU_any (x y : Nat) (w : World) : Calls Tryz.prog 91 #[.int .u64 (x : Int), .int .u64 (y : Int)] w fun e w' => e = .returned (.int .i64 (cmpV x y)) ∧ w' = w := by
  have h1 := isNaN_any x w
  have h2 := isNaN_any y w
  by_cases c1 : x < y
  · have hv : Hid (cmpV x y = -1) := Lib.hid (by rw [cmpV, if_pos c1])
    go_enter Tryz.func91, Tryz.ntmps91
    go_wp2_with fail
    refine h1.mono ?_
    rintro e w1 ⟨rfl, rfl⟩
    go_wp2_with fail
    refine h2.mono ?_
    rintro e w2 ⟨rfl, rfl⟩
    clear h1 h2
    go_wp2
    go_ret
    exact ⟨ret_int hv.out.symm, rfl⟩
  · by_cases c2 : y < x
    · have hv : Hid (cmpV x y = 1) := Lib.hid (by rw [cmpV, if_neg c1, if_pos c2])
      go_enter Tryz.func91, Tryz.ntmps91
      go_wp2_with fail
      refine h1.mono ?_
      rintro e w1 ⟨rfl, rfl⟩
      go_wp2_with fail
      refine h2.mono ?_
      rintro e w2 ⟨rfl, rfl⟩
      clear h1 h2
      go_wp2
      go_ret
      exact ⟨ret_int hv.out.symm, rfl⟩
    · have hv : Hid (cmpV x y = 0) := Lib.hid (by rw [cmpV, if_neg c1, if_neg c2])
      go_enter Tryz.func91, Tryz.ntmps91
      go_wp2_with fail
      refine h1.mono ?_
      rintro e w1 ⟨rfl, rfl⟩
      go_wp2_with fail
      refine h2.mono ?_
      rintro e w2 ⟨rfl, rfl⟩
      clear h1 h2
      go_wp2
      go_ret
      exact ⟨ret_int hv.out.symm, rfl⟩
set_option maxRecDepth 100000 in
theorem cmpOr_any (b : Nat) (a c : Int) (w : World) (hb : Blk w b 3 #[.int .i64 a, .int .i64 c]) : Calls Tryz.prog 90 #[.slice (some ⟨b, 0, none⟩) 2 2] w fun e w' => e = .returned (.int .i64 (if a ≠ 0 then a else c)) ∧ w' = w := by
  have c0 : w.cell? ⟨b, 0, none⟩ = some (.int .i64 a) := (hb.cell 0).trans rfl
  have c1 : w.cell? ⟨b, 1, none⟩ = some (.int .i64 c) := (hb.cell 1).trans rfl
  obtain ⟨R, hR⟩ : ∃ R, R = (if a ≠ 0 then a else c) := ⟨_, rfl⟩
  rw [← hR]
  have HR := Lib.hid hR
  clear hb hR
  go_enter Tryz.func90, Tryz.ntmps90
  go_wp2
  go_loopw [8] (fun v wr => ∃ k : Nat, k ≤ 2 ∧ v = .int .i64 (k : Int) ∧ wr = w ∧ (1 ≤ k → a = 0) ∧ (2 ≤ k → c = 0)) (fun v _ => 2 - (intOf v).toNat)
  case atStart => exact ⟨0, by omega, rfl, rfl, by omega, by omega⟩
  case round =>
    obtain ⟨k, hk, rfl, rfl, h1, h2⟩ := hrel
    by_cases e2 : k = 2
    · subst e2
      have hz : Hid (R = 0) := Lib.hid (by rw [HR.out, if_neg (by simp [h1 (by omega)]), h2 (by omega)])
      clear h1 h2
      go_wp2
      go_ret
      exact ⟨ret_int hz.out.symm, rfl⟩
    · by_cases e1 : k = 1
      · subst e1
        have ha := h1 (by omega)
        have HRc : Hid (R = c) := Lib.hid (by rw [HR.out, if_neg (by simp [ha])])
        clear h1 h2
        by_cases hc0 : c = 0
        · have hcc := hc0
          go_wp2
          go_roundw
          case rel => exact ⟨2, by omega, by go_num, trivial, fun _ => ha, fun _ => hcc⟩
          case measure => simp [intOf]
        · have hne : (c != 0) = true := by simpa using hc0
          clear ha
          go_wp2
          go_ret
          exact ⟨ret_int HRc.out.symm, rfl⟩
      · obtain rfl : k = 0 := by omega
        clear h1 h2
        by_cases ha0 : a = 0
        · have haa := ha0
          go_wp2
          go_roundw
          case rel => exact ⟨1, by omega, by go_num, trivial, fun _ => haa, fun h => by omega⟩
          case measure => simp [intOf]
        · have hne : (a != 0) = true := by simpa using ha0
          have HRa : Hid (R = a) := Lib.hid (by rw [HR.out, if_pos ha0])
          go_wp2
          go_ret
          exact ⟨ret_int HRa.out.symm, rfl⟩
set_option maxRecDepth 100000 in
set_option maxHeartbeats 1000000 in
theorem extD_grow {w w' : World} (h : ExtD w w') : ∃ q os', w' = Sort.grow (w.drewN q) os' := by
  obtain ⟨h1, h2⟩ := h
  refine ⟨w'.drawn - w.drawn, w'.heap.extract w.heap.size w'.heap.size, ?_⟩
  have e1 : w.heap ++ w'.heap.extract w.heap.size w'.heap.size = w'.heap := by
    apply Array.ext_getElem?
    intro i
    by_cases hi : i < w.heap.size
    · rw [Array.getElem?_append_left hi]; exact (h1.block i hi).symm
    · rw [Array.getElem?_append_right (by omega), Array.getElem?_extract]
      have := h1.size
      by_cases h3 : i < w'.heap.size
      · rw [if_pos (by omega)]; congr 1; omega
      · rw [if_neg (by omega), Array.getElem?_eq_none (by omega)]
  obtain ⟨hp, tp, dr, os, ou⟩ := w'
  obtain ⟨hp0, tp0, dr0, os0, ou0⟩ := w
  have a1 := h1.os
  have a2 := h1.tape
  have a3 := h1.output
  simp only at a1 a2 a3 e1 h2
  subst a1 a2 a3
  simp only [Sort.grow, World.drewN, e1]
  congr 1
  omega
set_option maxRecDepth 100000 in
set_option maxHeartbeats 1000000 in
theorem endsCmp_any (x y : En) (w : World) : Calls Tryz.prog 89 #[.agg (enC x).toArray, .agg (enC y).toArray] w fun e w' => e = .returned (.int .i64 (endsV x y)) ∧ ExtD w w' := by
  have hb1 := (Blk.new w 191 (enC x).toArray).alloc (.cells (enC y).toArray 191)
  have hb2 := Blk.new (w.alloc (.cells (enC x).toArray 191)) 191 (enC y).toArray
  rw [World.size_alloc] at hb2
  have B0 : ExtD w ((w.alloc (.cells (enC x).toArray 191)).alloc (.cells (enC y).toArray 191)) := ((ExtD.refl w).alloc _).alloc _
  go_enter Tryz.func89, Tryz.ntmps89
  go_wp2_with fail
  generalize (w.alloc (.cells (enC x).toArray 191)).alloc (.cells (enC y).toArray 191) = W1 at *
  refine RegD.wp_region_pass (by kernel_rfl) (by kernel_rfl) ?_
  refine RegD.pass_val (.pointer (some ⟨w.heap.size, 0, none⟩)) (RegD.met_none rfl) (fun a W hE hS => ?_) ?_
  · have e0 := RegD.see_old 2 hS (by kernel_rfl) (by kernel_rfl) rfl
    go_simp; first | done | rfl
  refine RegD.pass_val (.int .u64 (x.1 : Int)) (RegD.met_none rfl) (fun a W hE hS => ?_) ?_
  · have e0 := RegD.see_new 5 0 hS (by kernel_rfl) (by kernel_rfl) rfl rfl
    have cc : World.cell? W ⟨w.heap.size, 0, none⟩ = some (.int .u64 (x.1 : Int)) := ((hb1.drew.ext hE.1).cell 0).trans rfl; go_simp; first | done | rfl
  refine RegD.pass_val (.pointer (some ⟨w.heap.size + 1, 0, none⟩)) (RegD.met_none rfl) (fun a W hE hS => ?_) ?_
  · have e0 := RegD.see_old 3 hS (by kernel_rfl) (by kernel_rfl) rfl
    go_simp; first | done | rfl
  refine RegD.pass_val (.int .u64 (y.1 : Int)) (RegD.met_none rfl) (fun a W hE hS => ?_) ?_
  · have e0 := RegD.see_new 7 2 hS (by kernel_rfl) (by kernel_rfl) rfl rfl
    have cc : World.cell? W ⟨w.heap.size + 1, 0, none⟩ = some (.int .u64 (y.1 : Int)) := ((hb2.drew.ext hE.1).cell 0).trans rfl; go_simp; first | done | rfl
  refine RegD.pass_step (RegD.eqs (.int .i64 (cmpV x.1 y.1))) (RegD.stable_eqs _) (RegD.met_none rfl) (fun a W hE hS => ?_) ?_
  · have e0 := RegD.see_new 6 1 hS (by kernel_rfl) (by kernel_rfl) rfl rfl
    have e1 := RegD.see_new 8 3 hS (by kernel_rfl) (by kernel_rfl) rfl rfl
    refine RegD.wp_call rfl Tryz.func91 rfl (by kernel_rfl) (by simp [Act.eval, e0, e1]) (cmpU_any x.1 y.1 W) ?_
    rintro e w' ⟨rfl, rfl⟩
    exact ⟨_, rfl, _, rfl, ExtD.refl _, rfl⟩
  refine RegD.pass_val (.pointer (some ⟨w.heap.size, 1, none⟩)) (RegD.met_none rfl) (fun a W hE hS => ?_) ?_
  · have e0 := RegD.see_old 2 hS (by kernel_rfl) (by kernel_rfl) rfl
    go_simp; first | done | rfl
  refine RegD.pass_val (.int .u64 (x.2 : Int)) (RegD.met_none rfl) (fun a W hE hS => ?_) ?_
  · have e0 := RegD.see_new 10 5 hS (by kernel_rfl) (by kernel_rfl) rfl rfl
    have cc : World.cell? W ⟨w.heap.size, 1, none⟩ = some (.int .u64 (x.2 : Int)) := ((hb1.drew.ext hE.1).cell 1).trans rfl; go_simp; first | done | rfl
  refine RegD.pass_val (.pointer (some ⟨w.heap.size + 1, 1, none⟩)) (RegD.met_none rfl) (fun a W hE hS => ?_) ?_
  · have e0 := RegD.see_old 3 hS (by kernel_rfl) (by kernel_rfl) rfl
    go_simp; first | done | rfl
  refine RegD.pass_val (.int .u64 (y.2 : Int)) (RegD.met_none rfl) (fun a W hE hS => ?_) ?_
  · have e0 := RegD.see_new 12 7 hS (by kernel_rfl) (by kernel_rfl) rfl rfl
    have cc : World.cell? W ⟨w.heap.size + 1, 1, none⟩ = some (.int .u64 (y.2 : Int)) := ((hb2.drew.ext hE.1).cell 1).trans rfl; go_simp; first | done | rfl
  refine RegD.pass_step (RegD.eqs (.int .i64 (cmpV x.2 y.2))) (RegD.stable_eqs _) (RegD.met_none rfl) (fun a W hE hS => ?_) ?_
  · have e0 := RegD.see_new 11 6 hS (by kernel_rfl) (by kernel_rfl) rfl rfl
    have e1 := RegD.see_new 13 8 hS (by kernel_rfl) (by kernel_rfl) rfl rfl
    refine RegD.wp_call rfl Tryz.func91 rfl (by kernel_rfl) (by simp [Act.eval, e0, e1]) (cmpU_any x.2 y.2 W) ?_
    rintro e w' ⟨rfl, rfl⟩
    exact ⟨_, rfl, _, rfl, ExtD.refl _, rfl⟩
  apply RegD.pass_build (hm := (RegD.met_none rfl))
  · intro a W hE hS
    have e0 := RegD.see_new 9 4 hS (by kernel_rfl) (by kernel_rfl) rfl rfl
    have e1 := RegD.see_new 14 9 hS (by kernel_rfl) (by kernel_rfl) rfl rfl
    go_simp; first | done | rfl | exact ⟨rfl, rfl⟩
  refine RegD.pass_step (RegD.eqs (.int .i64 (endsV x y))) (RegD.stable_eqs _) (RegD.met_none rfl) (fun a W hE hS => ?_) ?_
  · obtain ⟨b0, e0, q0⟩ := RegD.see_kind 15 10 hS (by kernel_rfl) (by kernel_rfl) rfl rfl
    refine RegD.wp_call rfl Tryz.func90 rfl (by kernel_rfl) (by simp [Act.eval, e0]) (cmpOr_any b0 (cmpV x.1 y.1) (cmpV x.2 y.2) W q0) ?_
    rintro e w' ⟨rfl, rfl⟩
    exact ⟨_, rfl, _, rfl, ExtD.refl _, rfl⟩
  refine RegD.pass_copy 16 11 (RegD.met_none rfl) (.inr rfl) (by kernel_rfl) (by kernel_rfl) rfl rfl (RegD.stable_eqs _) ?_
  refine RegD.pass_end [none, none, none, none, some 4, some 5, some 6, some 7, some 8, some 9, some 10, some 11, some 12, some 13, some 14, some 15, some 16] (by kernel_rfl) ?_
  intro f w9 hE hf
  have h4 : f 4 = .int .i64 (endsV x y) := hf 4 12 _ (by kernel_rfl) rfl
  have BE : ExtD w w9 := B0.drew.trans hE
  simp only [RegD.sel, h4]
  clear hf hE hb1 hb2 B0
  go_wp2
  go_ret
  exact ⟨rfl, BE⟩
end Go.Proofs.YtpellkblaeeopaaGreatDoor
