/-
  Parts: SrtM.
-/
import Derived.Test.YtpellkblaeeopaaGreatDoorC10
/-
  Walks: slices.AppendSeq, Collect, Sorted at uint64, over the keys of the pages.
-/
namespace Go.Proofs.YtpellkblaeeopaaGreatDoor
open Go.RowKit Go.Shelf

attribute [local go_sem] Oper.semAt_some

section
variable {F : Fence} {n : Nat} {P : Program} {ops : Array Oper} {rest : List Oper} {a : Act} {w : World} {Q : Exit → Act → World → Prop} {dst : Option Tmp} {ty : TypeId} {pos : String} {aft : Array Edge} {gd : Option (Nat × Bool)}
theorem sIn_append (t : TypeId) {x c : Operand} (h : wpListIn F n P ops Q (⟨dst, .call { callee := .builtin .append, args := #[x, c], argTypes := #[t, t] }, ty, pos, aft, gd⟩ :: rest) a w) :
    wpListIn F n P ops Q (⟨dst, .call { callee := .builtin .append, args := #[x, c], argTypes := #[t, t] }, ty, pos, aft, gd⟩ :: rest) a w := h
end
theorem own_keptS {w w' : World} {base size n : Nat} {e : TypeId} {v : Value} {xs : List Value} {row : Option Nat} (h : w.ownsRow base e size v n xs) (hg : w.grownBy w' row) (hr : ∀ r, row = some r → ∃ o : Obj, w.heap[r]? = some o ∧ o.isCells = false) : w'.ownsRow base e size v n xs :=
  own_chg h (Chg.grown (Z := fun k => row = some k) hg (fun k e => e)) fun k hv hz => by
    obtain ⟨o, ho, hc⟩ := hr k hz
    rcases h.2 with ⟨rfl, _⟩ | ⟨g, cap, cur, rfl, _, hh, _⟩
    · cases hv
    · cases hv
      rw [hh] at ho
      cases ho; cases hc
theorem blk_keptS {w w' : World} {g : Nat} {t : TypeId} {cs : Array Value} {row : Option Nat} (h : Blk w g t cs) (hg : w.grownBy w' row) (hr : ∀ r, row = some r → ∃ o : Obj, w.heap[r]? = some o ∧ o.isCells = false) : Blk w' g t cs :=
  h.grown hg (fun e => by
    obtain ⟨o, h1, h2⟩ := hr g e.symm
    rw [show w.heap[g]? = some (.cells cs t (0, 0)) from h] at h1; cases h1; cases h2)
theorem own_cellsS {w : World} {base size n : Nat} {e : TypeId} {v : Value} {xs : List Value} (h : w.ownsRow base e size v n xs) {b : Nat} {o : Obj} (hb : v.ownBlock = some b) (ho : w.heap[b]? = some o) : o.isCells = true := by
  rcases h.2 with ⟨rfl, _⟩ | ⟨g, cap, cur, rfl, _, hh, _⟩
  · cases hb
  · cases hb
    rw [hh] at ho
    cases ho; rfl
end Go.Proofs.YtpellkblaeeopaaGreatDoor
