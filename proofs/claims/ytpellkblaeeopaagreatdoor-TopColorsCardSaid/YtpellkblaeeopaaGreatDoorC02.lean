/-
  Parts: Flow.
-/
import Derived.Test.YtpellkblaeeopaaGreatDoorC01
/-
  My own law for a region that draws its order and writes blocks that its text names: each operation says which blocks it may change; what is known of a slot, and what an operation asks of memory,
  need only stand against those operations that may come between. One pass in the order of the text is enough.
-/
namespace Go.Proofs.YtpellkblaeeopaaGreatDoor
open Go.RowKit

/-- What was there is as it was, but for the blocks of Z. -/
structure Chg (Z : Nat → Prop) (w w' : World) : Prop where
  os : w'.os = w.os
  tape : w'.tape = w.tape
  output : w'.output = w.output
  size : w.heap.size ≤ w'.heap.size
  block : ∀ k, k < w.heap.size → ¬ Z k → w'.heap[k]? = w.heap[k]?
namespace Chg
variable {Z Z' : Nat → Prop} {a b c w w' : World}
theorem refl (Z : Nat → Prop) (w : World) : Chg Z w w := ⟨rfl, rfl, rfl, Nat.le_refl _, fun _ _ _ => rfl⟩
theorem trans (h : Chg Z a b) (k : Chg Z b c) : Chg Z a c :=
  ⟨k.os.trans h.os, k.tape.trans h.tape, k.output.trans h.output, Nat.le_trans h.size k.size, fun i hi hn => (k.block i (Nat.lt_of_lt_of_le hi h.size) hn).trans (h.block i hi hn)⟩
theorem mono (h : Chg Z w w') (hZ : ∀ k, Z k → Z' k) : Chg Z' w w' := ⟨h.os, h.tape, h.output, h.size, fun k hk hn => h.block k hk fun hz => hn (hZ k hz)⟩
theorem of_ext (h : Ext w w') : Chg Z w w' := ⟨h.os, h.tape, h.output, h.size, fun k hk _ => h.block k hk⟩
theorem ext (h : Chg (fun _ => False) w w') : Ext w w' := ⟨h.os, h.tape, h.output, h.size, fun k hk => h.block k hk id⟩
theorem grown {r : Option Nat} (h : w.grownBy w' r) (hr : ∀ k, r = some k → Z k) : Chg Z w w' :=
  ⟨h.os, h.tape, h.output, h.size, fun k hk hn => h.block k hk fun e => hn (hr k e.symm)⟩
theorem below (h : Chg Z w w') {n : Nat} (hZ : ∀ k, Z k → n ≤ k) (hn : n ≤ w.heap.size) : Below n w w' :=
  ⟨h.os, h.tape, h.output, h.size, fun k hk => h.block k (by omega) fun hz => by have := hZ k hz; omega⟩
theorem of_below {n : Nat} (h : Below n w w') (hZ : ∀ k, n ≤ k → k < w.heap.size → Z k) : Chg Z w w' :=
  ⟨h.os, h.tape, h.output, h.size, fun k hk hn => h.block k (Nat.lt_of_not_le fun hk' => hn (hZ k hk' hk))⟩
theorem drew (h : Chg Z w w') : Chg Z w w'.drew := ⟨h.os, h.tape, h.output, h.size, h.block⟩
theorem alloc (h : Chg Z w w') (o : Obj) : Chg Z w (w'.alloc o) := h.trans (of_ext ((Ext.refl _).alloc o))
end Chg
theorem Blk.chg {Z : Nat → Prop} {w w' : World} {g : Nat} {t : TypeId} {cs : Array Value} (h : Blk w g t cs) (c : Chg Z w w') (hg : ¬ Z g) : Blk w' g t cs := (c.block g h.lt hg).trans h
theorem Rd.chg {Z : Nat → Prop} {w w' : World} {B size n : Nat} {A : Option Addr} {xs : List Value} (h : Rd w B size A n xs) (c : Chg Z w w') (hB : B ≤ w.heap.size) (hZ : ∀ k, Z k → B ≤ k) : Rd w' B size A n xs :=
  h.keep fun p hp => World.cell?_of_block (c.block p.block (by omega) fun hz => by have := hZ _ hz; omega)
theorem own_chg {Z : Nat → Prop} {w w' : World} {base size n : Nat} {e : TypeId} {v : Value} {xs : List Value} (h : w.ownsRow base e size v n xs) (c : Chg Z w w') (hv : ∀ k, v.ownBlock = some k → ¬ Z k) : w'.ownsRow base e size v n xs := by
  refine ⟨h.1, ?_⟩
  rcases h.2 with h2 | ⟨g, cap, cur, rfl, hb, hh, h3⟩
  · exact .inl h2
  · exact .inr ⟨g, cap, cur, rfl, hb, (c.block g (Array.getElem?_eq_some_iff.1 hh).1 (hv g rfl)).trans hh, h3⟩

namespace Flow
open Reg
/-- an operation waits for another one -/
def waits (ops : Array Oper) : Nat → Nat → Nat → Bool
  | 0, _, _ => false
  | f + 1, i, j => ((ops[i]?).map fun o => o.after.any fun e => binds e && (e.on == j || waits ops f e.on j)).getD false
abbrev Done := Nat → Bool
/-- a kind that may lapse when an operation is done -/
abbrev KdL := Done → Value → World → Prop
def up (T : Kd) : KdL := fun _ => T
def setD (D : Done) (k : Nat) : Done := fun j => if j = k then true else D j
def doneOf (L : Array Bool) : Done := fun k => L.getD k false
abbrev Zs := List (Nat × (Nat → Prop))
abbrev Fs := List (Nat × (World → Prop))
def zone : Zs → Nat → (Nat → Prop)
  | [], _ => fun _ => False
  | p :: zs, i => if p.1 = i then p.2 else zone zs i
def Kept (Z : Nat → Prop) (F : World → Prop) : Prop := ∀ w w', Chg Z w w' → F w → F w'
def KeptK (Z : Nat → Prop) (T : Kd) : Prop := ∀ v w w', Chg Z w w' → T v w → T v w'
def KeptL (k : Nat) (Z : Nat → Prop) (T : KdL) : Prop := ∀ D v w w', Chg Z w w' → T D v w → T (setD D k) v w'
theorem keptL_up {k : Nat} {Z : Nat → Prop} {T : Kd} (h : KeptK Z T) : KeptL k Z (up T) := fun _ v w w' c hT => h v w w' c hT
/-- what an operation sees in a slot -/
def SeesL (ops : Array Oper) (Ts : List KdL) (a0 : Act) (i : Nat) (a : Act) (w : World) (t : Tmp) : Prop :=
  match writer ops t with
  | none => a.tmps[t]? = a0.tmps[t]?
  | some j => if j < i then ∃ v T D, Ts[j]? = some T ∧ a.tmps[t]? = some v ∧ (D i = false ∧ ∀ k, waits ops 8 k i = true → D k = false) ∧ T D v w else a.tmps[t]? = a0.tmps[t]?

theorem waits_closed {ops : Array Oper} {L : Array Bool} (hcl : ∀ j o, L.getD j false = true → ops[j]? = some o → ∀ e ∈ o.after, binds e = true → L.getD e.on false = true) :
    ∀ (f i j : Nat), L.getD i false = true → waits ops f i j = true → L.getD j false = true
  | 0, _, _, _, h => by simp [waits] at h
  | f + 1, i, j, hi, h => by
    cases ho : ops[i]? with
    | none => simp [waits, ho] at h
    | some o =>
      simp only [waits, ho, Option.map_some, Option.getD_some, Array.any_eq_true', Bool.and_eq_true, Bool.or_eq_true, beq_iff_eq] at h
      obtain ⟨e, he, hb, h⟩ := h
      have h1 := hcl i o hi ho e he hb
      rcases h with h | h
      · rw [h] at h1; exact h1
      · exact waits_closed hcl f _ _ h1 h

theorem zone_kept {R : (Nat → Prop) → Prop} (zs : Zs) (ok : Nat → Bool) (h0 : R fun _ => False) (h : ∀ p ∈ zs, ok p.1 = true → R p.2) (k : Nat) (hk : ok k = true) : R (zone zs k) := by
  induction zs with
  | nil => exact h0
  | cons p zs ih =>
    unfold zone
    split
    · rename_i e; exact h p (List.mem_cons_self) (by rw [e]; exact hk)
    · exact ih fun q hq => h q (List.mem_cons_of_mem _ hq)
theorem zone_le {n : Nat} (zs : Zs) (h : ∀ p ∈ zs, ∀ b, p.2 b → n ≤ b) (k b : Nat) (hb : zone zs k b) : n ≤ b :=
  zone_kept (R := fun Z => ∀ b, Z b → n ≤ b) zs (fun _ => true) (fun _ h => h.elim) (fun p hp _ => h p hp) k rfl b hb

section
variable {P : Program} {ops : Array Oper} {Q : Exit → Act → World → Prop} {a0 : Act} {w0 : World} {n0 : Nat} {zs : Zs} {fs : Fs}

def OpWp (P : Program) (o : Oper) (a : Act) (w : World) (K : Act → World → Prop) (Q : Exit → Act → World → Prop) : Prop := o.wp P a w K Q ∨ (o.asks P a w ∧ LetsOut Q)
def Step (P : Program) (ops : Array Oper) (Q : Exit → Act → World → Prop) (Z : Nat → Prop) (o : Oper) (T : KdL) (a : Act) (w : World) : Prop :=
  (Region.wanted o (yielded ops a.tmps) = true ∧ OpWp P o a w (fun a' w' => ∃ v, a' = a.put o.dst v ∧ Chg Z w w' ∧ ∀ D, T D v w') Q) ∨
  (Region.wanted o (yielded ops a.tmps) = false ∧ ∀ D, T D undef w)

/-- may come behind -/
def mayFollow (ops : Array Oper) (i k : Nat) : Bool := !(k == i) && !(waits ops 8 i k)
/-- what an operation is handed: the world, its facts, its slots, what the operations left that it waits for -/
structure Hands (ops : Array Oper) (a0 : Act) (w0 : World) (n0 : Nat) (fs : Fs) (Ts : List KdL) (i : Nat) (o : Oper) (a : Act) (w : World) : Prop where
  below : Below n0 w0 w
  defers : a.defers = a0.defers
  fact : ∀ p ∈ fs, p.1 = i → p.2 w
  sees : ∀ t ∈ o.looksAt ops, SeesL ops Ts a0 i a w t
  past : ∀ j, j < i → behind ops i j = true → ∃ v T D, Ts[j]? = some T ∧ (D i = false ∧ ∀ k, waits ops 8 k i = true → D k = false) ∧ T D v w
structure Good (P : Program) (ops : Array Oper) (Q : Exit → Act → World → Prop) (a0 : Act) (w0 : World) (n0 : Nat) (zs : Zs) (fs : Fs) (Ts : List KdL) (i : Nat) (o : Oper) (T : KdL) : Prop where
  kept : ∀ k, mayFollow ops i k = true → KeptL k (zone zs k) T
  step : ∀ a w, Hands ops a0 w0 n0 fs Ts i o a w → Step P ops Q (zone zs i) o T a w

structure J (ops : Array Oper) (a0 : Act) (w0 : World) (n0 : Nat) (fs : Fs) (Ts : List KdL) (L : Array Bool) (a : Act) (w : World) : Prop where
  size : L.size = ops.size
  closed : ∀ j o, L.getD j false = true → ops[j]? = some o → ∀ e ∈ o.after, binds e = true → L.getD e.on false = true
  defers : a.defers = a0.defers
  tmps : a.tmps.size = a0.tmps.size
  below : Below n0 w0 w
  old : ∀ t, (∀ j, writer ops t = some j → L.getD j false = false) → a.tmps[t]? = a0.tmps[t]?
  new : ∀ j, L.getD j false = true → ∃ v T, Ts[j]? = some T ∧ T (doneOf L) v w ∧ ∀ t, writer ops t = some j → a.tmps[t]? = some v
  fact : ∀ p ∈ fs, L.getD p.1 false = false → p.2 w

structure Final (ops : Array Oper) (a0 : Act) (w0 : World) (n0 : Nat) (fs : Fs) (Ts : List KdL) (a : Act) (w : World) : Prop where
  defers : a.defers = a0.defers
  tmps : a.tmps.size = a0.tmps.size
  below : Below n0 w0 w
  old : ∀ t, writer ops t = none → a.tmps[t]? = a0.tmps[t]?
  new : ∀ j, j < ops.size → ∃ v T D, Ts[j]? = some T ∧ T D v w ∧ ∀ t, writer ops t = some j → a.tmps[t]? = some v
  fact : ∀ p ∈ fs, ops.size ≤ p.1 → p.2 w

theorem step_any (hs : Reg.shape ops a0.tmps.size = true) (hn0 : n0 ≤ w0.heap.size) (hzs : ∀ p ∈ zs, ∀ b, p.2 b → n0 ≤ b) {Ts : List KdL}
    (hfs : ∀ p ∈ fs, ∀ k, mayFollow ops k p.1 = true → Kept (zone zs k) p.2)
    (hg : ∀ i o, ops[i]? = some o → ∃ T, Ts[i]? = some T ∧ Good P ops Q a0 w0 n0 zs fs (Ts.take i) i o T)
    (hend : ∀ a w, Final ops a0 w0 n0 fs Ts a w → Q .normal a w) :
    ∀ (fuel : Nat) (L : Array Bool) (a : Act) (w : World), J ops a0 w0 n0 fs Ts L a w → ((List.range ops.size).filter fun i => !L.getD i true).length ≤ fuel → wpAny P .any ops Q fuel L a w := by
  have hclose : ∀ (L : Array Bool) (a : Act) (w : World), J ops a0 w0 n0 fs Ts L a w → Region.ready .any ops L = [] → ∀ j, j < ops.size → L.getD j false = true := by
    intro L a w hJ hr j
    induction j using Nat.strongRecOn with
    | _ j ih =>
      intro hj
      cases hL : L.getD j false with
      | true => rfl
      | false =>
        exfalso
        have hmem : j ∈ Region.ready .any ops L := by
          unfold Region.ready
          rw [List.mem_filter]
          refine ⟨by simpa using hj, ?_⟩
          have hjL : j < L.size := by rw [hJ.size]; exact hj
          have h1 : L.getD j true = false := by
            simp [hjL] at hL ⊢; exact hL
          rw [h1, Array.getElem?_eq_getElem hj]
          simp only [Bool.not_false, Option.map_some, Option.getD_some, Bool.true_and, Array.all_eq_true]
          intro k hk
          have hsj := (List.all_eq_true.1 hs) j (by simpa using hj)
          rw [Array.getElem?_eq_getElem hj] at hsj
          simp only [Option.map_some, Option.getD_some, Bool.and_eq_true] at hsj
          have he := (Array.all_eq_true.1 hsj.2) k hk
          simp only [binds, Bool.or_eq_true, Bool.not_eq_true', decide_eq_true_eq] at he
          rcases he with he | he
          · simp [he]
          · rw [ih _ he (by omega)]; simp
        rw [hr] at hmem
        cases hmem
  have hfin : ∀ (L : Array Bool) (a : Act) (w : World), J ops a0 w0 n0 fs Ts L a w → Region.ready .any ops L = [] → Q .normal a w := by
    intro L a w hJ hr
    refine hend a w ⟨hJ.defers, hJ.tmps, hJ.below, fun t ht => hJ.old t (fun j hj => by rw [ht] at hj; cases hj), fun j hj => (hJ.new j (hclose L a w hJ hr j hj)).imp fun v ⟨T, h1, h2, h3⟩ => ⟨T, doneOf L, h1, h2, h3⟩, fun p hp hge => hJ.fact p hp ?_⟩
    have : ¬ p.1 < L.size := by rw [hJ.size]; omega
    simp [this]
  intro fuel
  induction fuel with
  | zero =>
    intro L a w hJ hf
    have hr : Region.ready .any ops L = [] := by
      have h0 : ((List.range ops.size).filter fun i => !L.getD i true) = [] := List.eq_nil_of_length_eq_zero (by omega)
      unfold Region.ready
      apply List.eq_nil_iff_forall_not_mem.2
      intro i hi
      rw [List.mem_filter] at hi
      have : i ∈ ((List.range ops.size).filter fun i => !L.getD i true) := by
        rw [List.mem_filter]
        exact ⟨hi.1, (Bool.and_eq_true _ _ ▸ hi.2).1⟩
      rw [h0] at this; cases this
    exact ⟨hr, hfin L a w hJ hr⟩
  | succ fuel ih =>
    intro L a w hJ hf
    refine ⟨hfin L a w hJ, fun i hi => ?_⟩
    unfold Region.ready at hi
    rw [List.mem_filter] at hi
    obtain ⟨hir, hib⟩ := hi
    have hi' : i < ops.size := by simpa using hir
    have hiL : i < L.size := by rw [hJ.size]; exact hi'
    rw [Array.getElem?_eq_getElem hi'] at hib
    simp only [Option.map_some, Option.getD_some, Bool.and_eq_true, Bool.not_eq_true'] at hib
    obtain ⟨hiF, hedges⟩ := hib
    have hiF' : L.getD i false = false := by simp [hiL] at hiF ⊢; exact hiF
    have hpre : ∀ e ∈ (ops[i]'hi').after, binds e = true → L.getD e.on false = true := by
      intro e he hb
      have := (Array.all_eq_true'.1 hedges) e he
      simp only [binds] at hb
      simpa [hb] using this
    obtain ⟨T, hT, hgood⟩ := hg i _ (Array.getElem?_eq_getElem hi')
    have hsi := (List.all_eq_true.1 hs) i (by simpa using hi')
    rw [Array.getElem?_eq_getElem hi'] at hsi
    simp only [Option.map_some, Option.getD_some, Bool.and_eq_true] at hsi
    obtain ⟨⟨hlook, hdst⟩, hback⟩ := hsi
    have hbeh : ∀ j, behind ops i j = true → L.getD j false = true := by
      intro j hb
      simp only [behind, Array.getElem?_eq_getElem hi', Option.map_some, Option.getD_some, Array.any_eq_true', Bool.and_eq_true, beq_iff_eq] at hb
      obtain ⟨e, he, hbe, hon⟩ := hb
      have hLj := hpre e he hbe
      rwa [hon] at hLj
    have hstep := hgood.step a w ⟨hJ.below, hJ.defers, fun p hp he => hJ.fact p hp (by rw [he]; exact hiF'), by
      intro t ht
      have hl1 := (List.all_eq_true.1 hlook) t ht
      unfold SeesL
      cases hw : writer ops t with
      | none => exact hJ.old t (fun j hj => by rw [hw] at hj; cases hj)
      | some j =>
        simp only [hw, Bool.or_eq_true, Bool.and_eq_true, decide_eq_true_eq, beq_iff_eq] at hl1
        simp only []
        split
        · rename_i hji
          rcases hl1 with (⟨_, hb⟩ | ⟨h1, _⟩) | h1
          · obtain ⟨v, T', h1, h2, h3⟩ := hJ.new j (hbeh j hb)
            refine ⟨v, T', doneOf L, ?_, h3 t hw, ⟨hiF', fun k hk => ?_⟩, h2⟩
            · rw [List.getElem?_take, if_pos hji]; exact h1
            · cases hLk : doneOf L k with
              | false => rfl
              | true => rw [waits_closed hJ.closed 8 k i hLk hk] at hiF'; cases hiF' 
          · omega
          · omega
        · rename_i hji
          refine hJ.old t (fun j' hj' => ?_)
          rw [hw] at hj'; cases hj'
          rcases hl1 with (⟨h1, _⟩ | ⟨_, hb⟩) | h1
          · omega
          · cases hLj : L.getD j false with
            | false => rfl
            | true =>
              exfalso
              have hj := (writer_some hw).1
              simp only [behind, Array.getElem?_eq_getElem hj, Option.map_some, Option.getD_some, Array.any_eq_true', Bool.and_eq_true, beq_iff_eq] at hb
              obtain ⟨e, he, hbe, hon⟩ := hb
              have := hJ.closed j _ hLj (Array.getElem?_eq_getElem hj) e he hbe
              rw [hon, hiF'] at this; cases this
          · rw [h1]; exact hiF', fun j hji hb => by
      obtain ⟨v, T', h1, h2, _⟩ := hJ.new j (hbeh j hb)
      refine ⟨v, T', doneOf L, by rw [List.getElem?_take, if_pos hji]; exact h1, ⟨hiF', fun k hk => ?_⟩, h2⟩
      cases hLk : doneOf L k with
      | false => rfl
      | true => rw [waits_closed hJ.closed 8 k i hLk hk] at hiF'; cases hiF'⟩
    have hcount : ((List.range ops.size).filter fun k => !(L.setIfInBounds i true).getD k true).length ≤ fuel := by
      have hlt : ((List.range ops.size).filter fun k => !(L.setIfInBounds i true).getD k true).length < ((List.range ops.size).filter fun k => !L.getD k true).length := by
        have hsub : ((List.range ops.size).filter fun k => !(L.setIfInBounds i true).getD k true) = ((List.range ops.size).filter fun k => !L.getD k true).filter (· != i) := by
          rw [List.filter_filter]
          apply List.filter_congr
          intro k hk
          have hk' : k < ops.size := by simpa using hk
          have hkL : k < L.size := by rw [hJ.size]; exact hk'
          by_cases h : k = i
          · subst h; simp [hkL]
          · simp [h, Array.getElem?_setIfInBounds_ne (Ne.symm h)]
        rw [hsub]
        have hm : i ∈ ((List.range ops.size).filter fun k => !L.getD k true) := by
          rw [List.mem_filter]; exact ⟨hir, by simp [hiF]⟩
        exact List.length_filter_lt_length_iff_exists.2 ⟨i, hm, by simp⟩
      omega
    have hD : doneOf (L.setIfInBounds i true) = setD (doneOf L) i := by
      funext k
      simp only [doneOf, setD, getD_set _ _ _ hiL]
    have hJ' : ∀ v w', Chg (zone zs i) w w' → (∀ D, T D v w') → J ops a0 w0 n0 fs Ts (L.setIfInBounds i true) (a.put (ops[i]'hi').dst v) w' := by
      intro v w' hE hTv
      have hput : ∀ j t, writer ops t = some j → j ≠ i → (a.put (ops[i]'hi').dst v).tmps[t]? = a.tmps[t]? := by
        intro j t ht hji
        cases hd : (ops[i]'hi').dst with
        | none => rfl
        | some d =>
          simp only [Act.put]
          rw [Array.getElem?_setIfInBounds_ne]
          intro e
          subst e
          rw [hd] at hdst
          simp only [Bool.and_eq_true, beq_iff_eq] at hdst
          rw [hdst.2] at ht; cases ht; exact hji rfl
      refine ⟨by simpa using hJ.size, ?_, ?_, ?_, hJ.below.trans (hE.below (zone_le zs hzs i) (Nat.le_trans hn0 hJ.below.size)), ?_, ?_, ?_⟩
      · intro j o hj ho e he hb
        rw [getD_set _ _ _ hiL] at hj ⊢
        split
        · rfl
        · split at hj
          · rename_i _ hji
            subst hji
            rw [Array.getElem?_eq_getElem hi'] at ho; cases ho
            exact hpre e he hb
          · exact hJ.closed j o hj ho e he hb
      · cases hd : (ops[i]'hi').dst <;> simpa [Act.put, hd] using hJ.defers
      · cases hd : (ops[i]'hi').dst <;> simpa [Act.put, hd] using hJ.tmps
      · intro t ht
        have hti : (ops[i]'hi').dst ≠ some t := by
          intro hd
          rw [hd] at hdst
          simp only [Bool.and_eq_true, beq_iff_eq] at hdst
          have := ht i hdst.2
          rw [getD_set _ _ _ hiL, if_pos rfl] at this; cases this
        have h1 : (a.put (ops[i]'hi').dst v).tmps[t]? = a.tmps[t]? := by
          cases hd : (ops[i]'hi').dst with
          | none => rfl
          | some d => simp only [Act.put]; exact Array.getElem?_setIfInBounds_ne (fun e => hti (by rw [hd, e]))
        rw [h1]
        refine hJ.old t (fun j hj => ?_)
        have := ht j hj
        rw [getD_set _ _ _ hiL] at this
        split at this
        · cases this
        · exact this
      · intro j hj
        rw [getD_set _ _ _ hiL] at hj
        by_cases hji : j = i
        · subst hji
          refine ⟨v, T, hT, hTv _, fun t ht => ?_⟩
          have hd := (writer_some ht).2
          rw [Array.getElem?_eq_getElem hi'] at hd
          simp only [Option.bind_some] at hd
          rw [hd] at hdst ⊢
          simp only [Bool.and_eq_true, decide_eq_true_eq] at hdst
          have : t < a.tmps.size := by rw [hJ.tmps]; exact hdst.1
          simp [Act.put, this]
        · rw [if_neg hji] at hj
          obtain ⟨v', T', h1, h2, h3⟩ := hJ.new j hj
          have hjs : j < ops.size := by
            rcases Nat.lt_or_ge j ops.size with h | h
            · exact h
            · have : ¬ j < L.size := by rw [hJ.size]; omega
              simp [this] at hj
          obtain ⟨T'', h4, h5⟩ := hg j _ (Array.getElem?_eq_getElem hjs)
          rw [h1] at h4; cases h4
          have hmay : mayFollow ops j i = true := by
            simp only [mayFollow, Bool.and_eq_true, Bool.not_eq_true', beq_eq_false_iff_ne]
            refine ⟨fun e => hji e.symm, ?_⟩
            cases hw : waits ops 8 j i with
            | false => rfl
            | true => rw [waits_closed hJ.closed 8 j i hj hw] at hiF'; cases hiF'
          exact ⟨v', T', h1, by rw [hD]; exact h5.kept i hmay _ _ _ _ hE h2, fun t ht => by rw [hput j t ht hji]; exact h3 t ht⟩
      · intro p hp hLp
        rw [getD_set _ _ _ hiL] at hLp
        by_cases hpi : p.1 = i
        · rw [if_pos hpi] at hLp; cases hLp
        · rw [if_neg hpi] at hLp
          have hmay : mayFollow ops i p.1 = true := by
            simp only [mayFollow, Bool.and_eq_true, Bool.not_eq_true', beq_eq_false_iff_ne]
            refine ⟨hpi, ?_⟩
            cases hw : waits ops 8 i p.1 with
            | false => rfl
            | true =>
              simp only [waits, Array.getElem?_eq_getElem hi', Option.map_some, Option.getD_some, Array.any_eq_true', Bool.and_eq_true, Bool.or_eq_true, beq_iff_eq] at hw
              obtain ⟨e, he, hb, h⟩ := hw
              have h1 := hpre e he hb
              rcases h with h | h
              · rw [h, hLp] at h1; cases h1
              · rw [waits_closed hJ.closed 7 _ _ h1 h] at hLp; cases hLp
          exact hfs p hp i hmay _ _ hE (hJ.fact p hp hLp)
    unfold wpOp
    rw [Array.getElem?_eq_getElem hi']
    simp only []
    rcases hstep with ⟨hw, hwp⟩ | ⟨hw, hTu⟩
    · rw [if_pos hw]
      rcases hwp with hwp | hwp
      · refine .inl (Oper.wp_mono ?_ hwp)
        rintro a' w' ⟨v, rfl, hE, hTv⟩
        exact ih _ _ _ (hJ' v w' hE hTv) hcount
      · exact .inr hwp
    · rw [if_neg (by rw [hw]; simp)]
      exact ih _ _ _ (hJ' undef w (Chg.refl _ _) hTu) hcount

/-- one pass in the order of the text, the newest ahead -/
def PassR (P : Program) (ops : Array Oper) (Q : Exit → Act → World → Prop) (a0 : Act) (w0 : World) (n0 : Nat) (zs : Zs) (fs : Fs) (E : List KdL → Prop) : List Oper → List KdL → Prop
  | [], Rs => E Rs.reverse
  | o :: rest, Rs => ∃ T, Good P ops Q a0 w0 n0 zs fs Rs.reverse Rs.length o T ∧ PassR P ops Q a0 w0 n0 zs fs E rest (T :: Rs)

theorem pass_get {E : List KdL → Prop} : ∀ (l : List Oper) (Rs : List KdL), PassR P ops Q a0 w0 n0 zs fs E l Rs →
    ∃ Us, E (Rs.reverse ++ Us) ∧ Us.length = l.length ∧ ∀ i o, l[i]? = some o → ∃ T, Us[i]? = some T ∧ Good P ops Q a0 w0 n0 zs fs (Rs.reverse ++ Us.take i) (Rs.length + i) o T
  | [], Rs, h => ⟨[], by simpa [PassR] using h, rfl, fun i o h => by simp at h⟩
  | o :: rest, Rs, ⟨T, hg, hp⟩ => by
    obtain ⟨Us, hE, hl, hU⟩ := pass_get rest (T :: Rs) hp
    refine ⟨T :: Us, by simpa using hE, by simp [hl], fun i o' hi => ?_⟩
    cases i with
    | zero =>
      simp at hi; subst hi
      exact ⟨T, rfl, by simpa using hg⟩
    | succ i =>
      simp at hi
      obtain ⟨T', h1, h2⟩ := hU i o' hi
      refine ⟨T', by simpa using h1, ?_⟩
      have e : (T :: Rs).reverse ++ Us.take i = Rs.reverse ++ (T :: Us).take (i + 1) := by simp
      have e2 : (T :: Rs).length + i = Rs.length + (i + 1) := by simp; omega
      rw [e, e2] at h2; exact h2

theorem wp_region_flow {id : Nat} (n0 : Nat) (zs : Zs) (fs : Fs) (hm : P.follows .mixedOrders = true) (hs : Reg.shape ops a0.tmps.size = true) (hn0 : n0 ≤ w0.heap.size) (hzs : ∀ p ∈ zs, ∀ b, p.2 b → n0 ≤ b)
    (hfs : ∀ p ∈ fs, p.2 w0.drew ∧ ∀ k, mayFollow ops k p.1 = true → Kept (zone zs k) p.2)
    (h : PassR P ops Q a0 w0.drew n0 zs fs (fun Ts => ∀ a w, Final ops a0 w0.drew n0 fs Ts a w → Q .normal a w) ops.toList []) : (Code.region id ops true).wp P Q a0 w0 := by
  obtain ⟨Ts, hend, hl, hg⟩ := pass_get _ _ h
  simp only [List.reverse_nil, List.nil_append, List.length_nil, Nat.zero_add] at hend hg
  refine wp_region_any hm (step_any (w0 := w0.drew) (n0 := n0) (fs := fs) hs hn0 hzs (fun p hp => (hfs p hp).2) (fun i o hi => hg i o (by simpa using hi)) hend _ _ _ _
    ⟨by simp, ?_, rfl, rfl, Below.refl _ _, fun t _ => rfl, ?_, fun p hp _ => (hfs p hp).1⟩ (Nat.le_trans (List.length_filter_le _ _) (by simp)))
  · intro j o hj
    exfalso
    by_cases h : j < ops.size <;> simp [h] at hj
  · intro j hj
    exfalso
    by_cases h : j < ops.size <;> simp [h] at hj

/-! ### What is kept -/
/-- the two lists' obligations, an operation each -/
theorem facts_nil : ∀ p ∈ ([] : Fs), p.2 w0 ∧ ∀ k, mayFollow ops k p.1 = true → Kept (zone zs k) p.2 := fun _ h => by cases h
theorem facts_cons {i : Nat} {F : World → Prop} {fs : Fs} (h0 : F w0) (he : Kept (fun _ => False) F) (hz : ∀ p ∈ zs, mayFollow ops p.1 i = true → Kept p.2 F)
    (h : ∀ p ∈ fs, p.2 w0 ∧ ∀ k, mayFollow ops k p.1 = true → Kept (zone zs k) p.2) : ∀ p ∈ (i, F) :: fs, p.2 w0 ∧ ∀ k, mayFollow ops k p.1 = true → Kept (zone zs k) p.2 := by
  intro p hp
  rcases List.mem_cons.1 hp with rfl | hp
  · exact ⟨h0, fun k hk => zone_kept (R := fun Z => Kept Z F) zs (fun k => mayFollow ops k i) he hz k hk⟩
  · exact h p hp
theorem zs_cons {R : Nat → (Nat → Prop) → Prop} {i : Nat} {Z : Nat → Prop} {zs : Zs} (h0 : R i Z) (h : ∀ p ∈ zs, R p.1 p.2) : ∀ p ∈ (i, Z) :: zs, R p.1 p.2 := by
  intro p hp
  rcases List.mem_cons.1 hp with rfl | hp
  · exact h0
  · exact h p hp
theorem no_follow {ops : Array Oper} {i k : Nat} {R : Prop} (h : mayFollow ops i k = false) : mayFollow ops i k = true → R := fun h' => by rw [h] at h'; cases h'
theorem kept_blk {Z : Nat → Prop} {g : Nat} {t : TypeId} {cs : Array Value} (h : ¬ Z g) : Kept Z (fun W => Blk W g t cs) := fun _ _ c hb => hb.chg c h
theorem kept_own {Z : Nat → Prop} {base size n : Nat} {e : TypeId} {v : Value} {xs : List Value} (h : ∀ k, v.ownBlock = some k → ¬ Z k) : Kept Z (fun W => W.ownsRow base e size v n xs) := fun _ _ c ho => own_chg ho c h
theorem nz_nil {n : Nat} : ∀ p ∈ ([] : Zs), ∀ b, p.2 b → n ≤ b := fun _ h => by cases h
theorem nz_cons {n j : Nat} {Z : Nat → Prop} {zs : Zs} (h0 : ∀ b, Z b → n ≤ b) (h : ∀ p ∈ zs, ∀ b, p.2 b → n ≤ b) : ∀ p ∈ (j, Z) :: zs, ∀ b, p.2 b → n ≤ b := zs_cons (R := fun _ Z => ∀ b, Z b → n ≤ b) h0 h
theorem fz_nil {ops : Array Oper} {i : Nat} {F : World → Prop} : ∀ p ∈ ([] : Zs), mayFollow ops p.1 i = true → Kept p.2 F := fun _ h => by cases h
theorem fz_cons {ops : Array Oper} {i j : Nat} {F : World → Prop} {Z : Nat → Prop} {zs : Zs} (h0 : mayFollow ops j i = true → Kept Z F) (h : ∀ p ∈ zs, mayFollow ops p.1 i = true → Kept p.2 F) :
    ∀ p ∈ (j, Z) :: zs, mayFollow ops p.1 i = true → Kept p.2 F := zs_cons (R := fun j Z => mayFollow ops j i = true → Kept Z F) h0 h
theorem kz_nil {ops : Array Oper} {i : Nat} {T : Kd} : ∀ p ∈ ([] : Zs), mayFollow ops i p.1 = true → KeptK p.2 T := fun _ h => by cases h
theorem kz_cons {ops : Array Oper} {i j : Nat} {T : Kd} {Z : Nat → Prop} {zs : Zs} (h0 : mayFollow ops i j = true → KeptK Z T) (h : ∀ p ∈ zs, mayFollow ops i p.1 = true → KeptK p.2 T) :
    ∀ p ∈ (j, Z) :: zs, mayFollow ops i p.1 = true → KeptK p.2 T := zs_cons (R := fun j Z => mayFollow ops i j = true → KeptK Z T) h0 h
theorem kept_eqs (X : Value) (Z : Nat → Prop) : KeptK Z (eqs X) := fun _ _ _ _ h => h
theorem kept_of {T : Kd} {i : Nat} (he : KeptK (fun _ => False) T) (h : ∀ p ∈ zs, mayFollow ops i p.1 = true → KeptK p.2 T) : ∀ k, mayFollow ops i k = true → KeptK (zone zs k) T :=
  fun k hk => zone_kept (R := fun Z => KeptK Z T) zs (fun k => mayFollow ops i k) he h k hk

/-- a kind that lapses when one of ks is done -/
def lin (ks : List Nat) (S : Kd) : KdL := fun D v w => (∀ k ∈ ks, D k = false) → S v w
theorem kept_lin {S : Kd} {i : Nat} (ks : List Nat) (he : KeptK (fun _ => False) S) (h : ∀ p ∈ zs, mayFollow ops i p.1 = true → ks.elem p.1 = true ∨ KeptK p.2 S) : ∀ k, mayFollow ops i k = true → KeptL k (zone zs k) (lin ks S) := by
  intro k hk
  by_cases hks : k ∈ ks
  · intro D v w w' c hT hD
    have := hD k hks
    simp [setD] at this
  · have h1 := zone_kept (R := fun Z => KeptK Z S) zs (fun k => mayFollow ops i k && !ks.elem k) he (fun p hp ho => by
      simp only [Bool.and_eq_true, Bool.not_eq_true'] at ho
      rcases h p hp ho.1 with h2 | h2
      · rw [h2] at ho; cases ho.2
      · exact h2) k (by simp [hk, hks])
    intro D v w w' c hT hD
    refine h1 v w w' c (hT fun j hj => ?_)
    have := hD j hj
    unfold setD at this
    split at this
    · cases this
    · exact this
theorem lz_nil {ops : Array Oper} {i : Nat} {ks : List Nat} {S : Kd} : ∀ p ∈ ([] : Zs), mayFollow ops i p.1 = true → ks.elem p.1 = true ∨ KeptK p.2 S := fun _ h => by cases h
theorem lz_cons {ops : Array Oper} {i j : Nat} {ks : List Nat} {S : Kd} {Z : Nat → Prop} {zs : Zs} (h0 : mayFollow ops i j = true → ks.elem j = true ∨ KeptK Z S) (h : ∀ p ∈ zs, mayFollow ops i p.1 = true → ks.elem p.1 = true ∨ KeptK p.2 S) :
    ∀ p ∈ (j, Z) :: zs, mayFollow ops i p.1 = true → ks.elem p.1 = true ∨ KeptK p.2 S := zs_cons (R := fun j Z => mayFollow ops i j = true → ks.elem j = true ∨ KeptK Z S) h0 h

/-! ### The steps -/
variable {E : List KdL → Prop} {rest : List Oper} {Rs : List KdL} {o : Oper}

abbrev H (ops : Array Oper) (a0 : Act) (w0 : World) (n0 : Nat) (fs : Fs) (Rs : List KdL) (o : Oper) (a : Act) (w : World) : Prop := Hands ops a0 w0 n0 fs Rs.reverse Rs.length o a w
/-- the guard of an operation is met -/
def Met (ops : Array Oper) (Rs : List KdL) (a0 : Act) (o : Oper) : Prop :=
  ∀ a w, (∀ t ∈ o.looksAt ops, SeesL ops Rs.reverse a0 Rs.length a w t) → Region.wanted o (yielded ops a.tmps) = true
theorem met_none (h : o.guard = none) : Met ops Rs a0 o := fun a w _ => by simp [Region.wanted, h]

theorem see_up (t j : Nat) {T : Kd} {a : Act} {w : World} (hS : ∀ t ∈ o.looksAt ops, SeesL ops Rs.reverse a0 Rs.length a w t) (hl : (o.looksAt ops).elem t = true) (hw : writer ops t = some j)
    (hj : decide (j < Rs.length) = true) (hT : Rs.reverse[j]? = some (up T)) : T (a.tmps[t]?.getD undef) w := by
  have := hS t (List.mem_of_elem_eq_true hl)
  unfold SeesL at this
  rw [hw] at this
  simp only [] at this
  rw [if_pos (of_decide_eq_true hj)] at this
  obtain ⟨v, T', D, h1, h2, _, h3⟩ := this
  rw [hT] at h1; cases h1
  rw [h2]; exact h3
theorem see_new (t j : Nat) {X : Value} {a : Act} {w : World} (hS : ∀ t ∈ o.looksAt ops, SeesL ops Rs.reverse a0 Rs.length a w t) (hl : (o.looksAt ops).elem t = true) (hw : writer ops t = some j)
    (hj : decide (j < Rs.length) = true) (hT : Rs.reverse[j]? = some (up (eqs X))) : a.tmps[t]?.getD undef = X := see_up t j hS hl hw hj hT
/-- what an operation without a slot left, of one kind for the operations that wait for it -/
theorem past_lin (j : Nat) {ks : List Nat} {S : Kd} {w : World} (hp : ∀ j, j < Rs.length → behind ops Rs.length j = true → ∃ v T D, Rs.reverse[j]? = some T ∧ (D Rs.length = false ∧ ∀ k, waits ops 8 k Rs.length = true → D k = false) ∧ T D v w)
    (hb : behind ops Rs.length j = true) (hj : decide (j < Rs.length) = true) (hT : Rs.reverse[j]? = some (lin ks S)) (hks : (ks.all fun k => k == Rs.length || waits ops 8 k Rs.length) = true) : ∃ v, S v w := by
  obtain ⟨v, T', D, h1, ⟨h4, h5⟩, h3⟩ := hp j (of_decide_eq_true hj) hb
  rw [hT] at h1; cases h1
  refine ⟨v, h3 fun k hk => ?_⟩
  have h6 := (List.all_eq_true.1 hks) k hk
  simp only [Bool.or_eq_true, beq_iff_eq] at h6
  rcases h6 with h6 | h6
  · rw [h6]; exact h4
  · exact h5 k h6
theorem see_lin (t j : Nat) {ks : List Nat} {S : Kd} {a : Act} {w : World} (hS : ∀ t ∈ o.looksAt ops, SeesL ops Rs.reverse a0 Rs.length a w t) (hl : (o.looksAt ops).elem t = true) (hw : writer ops t = some j)
    (hj : decide (j < Rs.length) = true) (hT : Rs.reverse[j]? = some (lin ks S)) (hks : (ks.all fun k => k == Rs.length || waits ops 8 k Rs.length) = true) : S (a.tmps[t]?.getD undef) w := by
  have := hS t (List.mem_of_elem_eq_true hl)
  unfold SeesL at this
  rw [hw] at this
  simp only [] at this
  rw [if_pos (of_decide_eq_true hj)] at this
  obtain ⟨v, T', D, h1, h2, ⟨h4, h5⟩, h3⟩ := this
  rw [hT] at h1; cases h1
  rw [h2]
  refine h3 fun k hk => ?_
  have := (List.all_eq_true.1 hks) k hk
  simp only [Bool.or_eq_true, beq_iff_eq] at this
  rcases this with rfl | h6
  · exact h4
  · exact h5 k h6
theorem see_old (t : Nat) {X : Value} {a : Act} {w : World} (hS : ∀ t ∈ o.looksAt ops, SeesL ops Rs.reverse a0 Rs.length a w t) (hl : (o.looksAt ops).elem t = true)
    (hw : (writer ops t).all (fun j => decide (¬ j < Rs.length)) = true) (hX : a0.tmps.getD t undef = X) : a.tmps[t]?.getD undef = X := by
  have := hS t (List.mem_of_elem_eq_true hl)
  unfold SeesL at this
  have h : a.tmps[t]? = a0.tmps[t]? := by
    cases hw' : writer ops t with
    | none => rw [hw'] at this; exact this
    | some j =>
      rw [hw'] at this hw
      simp only [Option.all_some, decide_eq_true_eq] at hw
      simp only [] at this
      rw [if_neg hw] at this
      exact this
  rw [← hX]
  simp only [Array.getD_eq_getD_getElem?, ← h]
theorem met_some (g : Nat) (b : Bool) (t : Tmp) (h : o.guard = some (g, b)) (hd : (ops[g]?).bind (·.dst) = some t) (hw : writer ops t = some g) (hl : (o.looksAt ops).elem t = true)
    (hg : decide (g < Rs.length) = true) (hT : Rs.reverse[g]? = some (up (eqs (.bool b)))) : Met ops Rs a0 o := fun a w hS => by
  have h3 := see_new t g hS hl hw hg hT
  cases hx : a.tmps[t]? with
  | none => rw [hx] at h3; simp [undef] at h3
  | some v =>
    rw [hx] at h3
    simp at h3
    subst h3
    simp [Region.wanted, h, yielded, hd, hx]

theorem pass_lin (ks : List Nat) (S : Kd) (hkept : ∀ k, mayFollow ops Rs.length k = true → KeptL k (zone zs k) (lin ks S)) (hm : Met ops Rs a0 o)
    (h : ∀ a w, H ops a0 w0 n0 fs Rs o a w → OpWp P o a w (fun a' w' => ∃ v, a' = a.put o.dst v ∧ Chg (zone zs Rs.length) w w' ∧ S v w') Q)
    (k : PassR P ops Q a0 w0 n0 zs fs E rest (lin ks S :: Rs)) : PassR P ops Q a0 w0 n0 zs fs E (o :: rest) Rs :=
  ⟨lin ks S, ⟨hkept, fun a w hH => .inl ⟨hm a w hH.sees, (h a w hH).imp (Oper.wp_mono fun _ _ ⟨v, h1, h2, h3⟩ => ⟨v, h1, h2, fun _ _ => h3⟩) id⟩⟩, k⟩
theorem pass_gen (T : Kd) (hkept : ∀ k, mayFollow ops Rs.length k = true → KeptK (zone zs k) T) (hm : Met ops Rs a0 o)
    (h : ∀ a w, H ops a0 w0 n0 fs Rs o a w → OpWp P o a w (fun a' w' => ∃ v, a' = a.put o.dst v ∧ Chg (zone zs Rs.length) w w' ∧ T v w') Q)
    (k : PassR P ops Q a0 w0 n0 zs fs E rest (up T :: Rs)) : PassR P ops Q a0 w0 n0 zs fs E (o :: rest) Rs :=
  ⟨up T, ⟨fun k hk => keptL_up (hkept k hk), fun a w hH => .inl ⟨hm a w hH.sees, (h a w hH).imp (Oper.wp_mono fun _ _ ⟨v, h1, h2, h3⟩ => ⟨v, h1, h2, fun _ => h3⟩) id⟩⟩, k⟩
/-- an operation that only makes memory -/
theorem pass_step (T : Kd) (hkept : ∀ k, mayFollow ops Rs.length k = true → KeptK (zone zs k) T) (hm : Met ops Rs a0 o)
    (h : ∀ a w, H ops a0 w0 n0 fs Rs o a w → o.wp P a w (fun a' w' => ∃ v, a' = a.put o.dst v ∧ Ext w w' ∧ T v w') Q)
    (k : PassR P ops Q a0 w0 n0 zs fs E rest (up T :: Rs)) : PassR P ops Q a0 w0 n0 zs fs E (o :: rest) Rs :=
  pass_gen T hkept hm (fun a w hH => .inl (Oper.wp_mono (fun _ _ ⟨v, h1, h2, h3⟩ => ⟨v, h1, Chg.of_ext h2, h3⟩) (h a w hH))) k
/-- an operation that comes to a value that is known, and changes nothing -/
theorem pass_val (X : Value) (hm : Met ops Rs a0 o)
    (h : ∀ a w, H ops a0 w0 n0 fs Rs o a w → (execOp a.eval o).run P w = .ok (.value X) w)
    (k : PassR P ops Q a0 w0 n0 zs fs E rest (up (eqs X) :: Rs)) : PassR P ops Q a0 w0 n0 zs fs E (o :: rest) Rs :=
  pass_step (eqs X) (fun _ _ => kept_eqs X _) hm (fun a w hH => by
    unfold Oper.wp
    rw [h a w hH]
    exact ⟨X, rfl, Ext.refl _, rfl⟩) k
/-- an operation that is not wanted -/
theorem pass_skip (hm : ∀ a w, H ops a0 w0 n0 fs Rs o a w → Region.wanted o (yielded ops a.tmps) = false)
    (k : PassR P ops Q a0 w0 n0 zs fs E rest (up (eqs undef) :: Rs)) : PassR P ops Q a0 w0 n0 zs fs E (o :: rest) Rs :=
  ⟨up (eqs undef), ⟨fun _ _ => keptL_up (kept_eqs _ _), fun a w hH => .inr ⟨hm a w hH, fun _ => rfl⟩⟩, k⟩
theorem not_wanted (g : Nat) (b : Bool) (t : Tmp) {a : Act} {w : World} (hH : H ops a0 w0 n0 fs Rs o a w) (h : o.guard = some (g, b)) (hd : (ops[g]?).bind (·.dst) = some t) (hw : writer ops t = some g) (hl : (o.looksAt ops).elem t = true)
    (hg : decide (g < Rs.length) = true) (hT : Rs.reverse[g]? = some (up (eqs (.bool !b)))) : Region.wanted o (yielded ops a.tmps) = false := by
  have h3 := see_new t g hH.sees hl hw hg hT
  cases hx : a.tmps[t]? with
  | none => rw [hx] at h3; simp [undef] at h3
  | some v =>
    rw [hx] at h3
    simp at h3
    subst h3
    cases b <;> simp [Region.wanted, h, yielded, hd, hx]
/-- a move of what an operation of this region left -/
theorem pass_copy (t j : Nat) {T : Kd} (hm : Met ops Rs a0 o) (ho : o.op = .move (.tmp t) ∨ o.op = .assign (.tmp t)) (hl : (o.looksAt ops).elem t = true) (hw : writer ops t = some j)
    (hj : decide (j < Rs.length) = true) (hT : Rs.reverse[j]? = some (up T)) (hst : ∀ k, mayFollow ops Rs.length k = true → KeptK (zone zs k) T)
    (k : PassR P ops Q a0 w0 n0 zs fs E rest (up T :: Rs)) : PassR P ops Q a0 w0 n0 zs fs E (o :: rest) Rs :=
  pass_step T hst hm (fun a w hH => by
    have h1 := see_up t j hH.sees hl hw hj hT
    have hrun : (execOp a.eval o).run P w = .ok (.value (a.tmps[t]?.getD undef)) w := by
      rcases ho with h | h <;> simp [execOp, h, Act.eval]
    unfold Oper.wp
    rw [hrun]
    exact ⟨_, rfl, Ext.refl _, h1⟩) k
/-- a move of a slot as it stood ahead of the region -/
theorem pass_old (t : Nat) {X : Value} (hm : Met ops Rs a0 o) (ho : o.op = .move (.tmp t) ∨ o.op = .assign (.tmp t)) (hl : (o.looksAt ops).elem t = true)
    (hw : (writer ops t).all (fun j => decide (¬ j < Rs.length)) = true) (hX : a0.tmps.getD t undef = X)
    (k : PassR P ops Q a0 w0 n0 zs fs E rest (up (eqs X) :: Rs)) : PassR P ops Q a0 w0 n0 zs fs E (o :: rest) Rs :=
  pass_val X hm (fun a w hH => by
    have h1 := see_old t hH.sees hl hw hX
    rcases ho with h | h <;> simp [execOp, h, Act.eval, h1]) k
/-- a call that changes only blocks that it may -/
theorem wp_callZ {Z : Nat → Prop} {T : Kd} {f : FuncId} {fn : Func} {c : Code} {args : Array Operand} {tys : Array TypeId} {vals : Array Value} {a : Act} {w : World} {R : Ending → World → Prop}
    (ho : o.op = .call { callee := .value (.func f), args := args, argTypes := tys }) (hf : P.funcs[f]? = some fn) (hb : fn.body = some c) (hname : (fn.name == "runtime.NumGoroutine") = false)
    (hv : args.map a.eval = vals) (h : Calls P f vals w R) (hR : ∀ e w', R e w' → ∃ v, e = .returned v ∧ Chg Z w w' ∧ T v w') :
    OpWp P o a w (fun a' w' => ∃ v, a' = a.put o.dst v ∧ Chg Z w w' ∧ T v w') Q :=
  .inl (Reg.wp_call ho hf hb hname hv h fun e w' hr => by
    obtain ⟨v, rfl, h1, h2⟩ := hR e w' hr
    exact ⟨v, rfl, v, rfl, h1, h2⟩)
/-- a law of a row of operations, used for one operation of a region -/
def QQ (K : Act → World → Prop) (Q : Exit → Act → World → Prop) : Exit → Act → World → Prop
  | .normal, a, w => K a w
  | e, a, w => Q e a w
theorem wp_QQ {a : Act} {w : World} {K K' : Act → World → Prop} (h : o.wp P a w K (QQ K' Q)) : o.wp P a w K Q := by
  unfold Oper.wp at *
  generalize (execOp a.eval o).run P w = r at *
  cases r with
  | ok n w' =>
    cases n <;> simp only [Oper.upon] at h ⊢
    all_goals first
      | exact h
      | exact Calls.mono h (fun e w'' he => by cases e <;> first | exact he | (obtain ⟨a, w, h⟩ := he; exact ⟨a, w, h⟩))
  | halt x w' => cases x <;> simp only [Oper.upon] at h ⊢ <;> exact h
theorem of_list {K : Act → World → Prop} {a : Act} {w : World} (hw : Region.wanted o (yielded ops a.tmps) = true) (h : wpList P ops (QQ K Q) [o] a w) : OpWp P o a w K Q := by
  unfold wpList at h
  rw [if_pos hw] at h
  rcases h with h | ⟨h1, h2⟩
  · exact .inl (wp_QQ (Oper.wp_mono (fun _ _ h => h) h))
  · exact .inr ⟨h1, by obtain ⟨a, w, h⟩ := h2; exact ⟨a, w, h⟩⟩
theorem pass_list (T : Kd) (hkept : ∀ k, mayFollow ops Rs.length k = true → KeptK (zone zs k) T) (hm : Met ops Rs a0 o)
    (h : ∀ a w, H ops a0 w0 n0 fs Rs o a w → wpList P ops (QQ (fun a' w' => ∃ v, a' = a.put o.dst v ∧ Chg (zone zs Rs.length) w w' ∧ T v w') Q) [o] a w)
    (k : PassR P ops Q a0 w0 n0 zs fs E rest (up T :: Rs)) : PassR P ops Q a0 w0 n0 zs fs E (o :: rest) Rs :=
  pass_gen T hkept hm (fun a w hH => of_list (hm a w hH.sees) (h a w hH)) k
theorem qq_nil {K : Act → World → Prop} {a : Act} {w : World} (h : K a w) : wpList P ops (QQ K Q) [] a w := h

theorem own_le {w : World} {base : Nat} {e : TypeId} {size : Nat} {A : Option Addr} {n c : Nat} {xs : List Value} (h : w.ownsRow base e size (.slice A n c) n xs) : n ≤ c := by
  rcases h.2 with ⟨e1, _⟩ | ⟨g, cap, cur, e1, _, _, h4, _⟩
  · injection e1 with _ e1 e2; omega
  · injection e1 with _ _ e2; omega
/-- a slice of new elements -/
theorem pass_build {e : TypeId} {n : Nat} {vals : Array Value} (hkept : ∀ k, mayFollow ops Rs.length k = true → KeptK (zone zs k) (built e n vals)) (hm : Met ops Rs a0 o)
    (h : ∀ a w, H ops a0 w0 n0 fs Rs o a w → (execOp a.eval o).run P w = .ok (.value (.slice (some ⟨w.heap.size, 0, none⟩) n n)) (w.alloc (.cells vals e)))
    (k : PassR P ops Q a0 w0 n0 zs fs E rest (up (built e n vals) :: Rs)) : PassR P ops Q a0 w0 n0 zs fs E (o :: rest) Rs :=
  pass_step (built e n vals) hkept hm (fun a w hH => by
    unfold Oper.wp
    rw [h a w hH]
    exact ⟨_, rfl, (Ext.refl _).alloc _, _, rfl, Blk.new _ _ _⟩) k
/-- a slice seen as an array -/
theorem reg_array {a : Act} {w : World} (t : Tmp) {ty e : TypeId} {n len c : Nat} {A : Option Addr} (ho : o.op = .sliceToArrayPointer ty (.tmp t)) (he : a.tmps[t]?.getD undef = .slice A len c)
    (hu : P.underlying ty = some (.array n e)) (h : n ≤ len) : (execOp a.eval o).run P w = .ok (.value (.pointer A)) w := by
  have : ¬ len < n := by omega
  simp [execOp, ho, Act.eval, he, Instr.arrayAt, run_underlying hu, this]
theorem reg_build {a : Act} {w : World} {ty : TypeId} {parts : Array (Nat × Operand)} {X : Value} (vs : Array (Nat × Value)) (ho : o.op = .build ty parts) (he : (parts.map fun (i, x) => (i, a.eval x)) = vs)
    (h : (Instr.build ty vs).run P w = .ok X w) : (execOp a.eval o).run P w = .ok (.value X) w := by
  subst he
  simp [execOp, ho, h]
theorem reg_buildSlice {a : Act} {w w' : World} {ty : TypeId} {n : Nat} {parts : Array (Nat × Operand)} {X : Value} (vs : Array (Nat × Value)) (ho : o.op = .buildSlice ty n parts) (he : (parts.map fun (i, x) => (i, a.eval x)) = vs)
    (h : (Instr.buildSlice ty n vs).run P w = .ok X w') : (execOp a.eval o).run P w = .ok (.value X) w' := by
  subst he
  simp [execOp, ho, h]
theorem wp_run {a : Act} {w w' : World} {v : Value} {K : Act → World → Prop} (h : (execOp a.eval o).run P w = .ok (.value v) w') (hK : K (a.put o.dst v) w') : OpWp P o a w K Q := by
  refine .inl ?_
  unfold Oper.wp
  rw [h]
  exact hK
/-! The slots behind the region -/
theorem pass_end {Ts : List KdL} (M : List (Option Tmp)) (hM : (List.range a0.tmps.size).map (fun t => if (writer ops t).isSome then some t else none) = M)
    (h : ∀ (f : Tmp → Value) (g : Nat → Value) (w : World), Below n0 w0 w → (∀ p ∈ fs, ops.size ≤ p.1 → p.2 w) → (∀ j T, decide (j < ops.size) = true → Ts[j]? = some (up T) → T (g j) w) → (∀ t j, writer ops t = some j → f t = g j) →
      Q .normal ⟨(sel f M a0.tmps.toList).toArray, a0.defers⟩ w) :
    ∀ a w, Final ops a0 w0 n0 fs Ts a w → Q .normal a w := by
  intro a w hF
  have ha : (⟨(sel (fun t => a.tmps[t]?.getD undef) M a0.tmps.toList).toArray, a0.defers⟩ : Act) = a := by
    have e1 : (sel (fun t => a.tmps[t]?.getD undef) M a0.tmps.toList).toArray = a.tmps := by
      have hML : M.length = a0.tmps.toList.length := by rw [← hM]; simp
      apply Array.ext_getElem?
      intro k
      simp only [List.getElem?_toArray]
      by_cases hk : k < a0.tmps.toList.length
      · rw [sel_get _ _ _ _ hk hML, ← hM]
        have hk' : k < a0.tmps.size := by simpa using hk
        have hka : k < a.tmps.size := by rw [hF.tmps]; exact hk'
        simp only [List.getElem?_map, List.getElem?_range hk', Option.map_some]
        cases hw : writer ops k with
        | none => simp only [Option.isSome_none, Bool.false_eq_true, if_false]; rw [hF.old k hw]; simp
        | some j => simp [hka]
      · rw [List.getElem?_eq_none (by rw [sel_length]; omega), Array.getElem?_eq_none (by rw [hF.tmps]; simpa using hk)]
    cases a
    simp only [Act.mk.injEq]
    exact ⟨e1, hF.defers.symm⟩
  have hch : ∀ j, ∃ v, j < ops.size → ∃ T D, Ts[j]? = some T ∧ T D v w ∧ ∀ t, writer ops t = some j → a.tmps[t]? = some v := by
    intro j
    by_cases hj : j < ops.size
    · obtain ⟨v, T, D, h1, h2, h3⟩ := hF.new j hj
      exact ⟨v, fun _ => ⟨T, D, h1, h2, h3⟩⟩
    · exact ⟨undef, fun h => absurd h hj⟩
  have := h (fun t => a.tmps[t]?.getD undef) (fun j => Classical.choose (hch j)) w hF.below hF.fact (by
    intro j T hj hT
    obtain ⟨T', D, h1, h2, _⟩ := Classical.choose_spec (hch j) (of_decide_eq_true hj)
    rw [hT] at h1; cases h1; exact h2) (by
    intro t j hw
    obtain ⟨T', _, _, _, h3⟩ := Classical.choose_spec (hch j) (writer_some hw).1
    rw [h3 t hw]; rfl)
  rw [ha] at this
  exact this
end
end Flow
end Go.Proofs.YtpellkblaeeopaaGreatDoor
