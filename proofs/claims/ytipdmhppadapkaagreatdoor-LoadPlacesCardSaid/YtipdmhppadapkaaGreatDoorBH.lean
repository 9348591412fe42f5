/-
  Parts: FlowIn UpA UpB UpC UpD UpE.
-/
import Derived.Test.YtipdmhppadapkaaGreatDoorBA
import Derived.OrdersIn
import Derived.RangeFuncCalls
import Derived.OwnWalkIn
import Derived.Test.YtipdmhppadapkaaGreatDoorBF
import Derived.Test.YtipdmhppadapkaaGreatDoorBE
import Derived.Test.YtipdmhppadapkaaGreatDoorBG
/-
  My two laws for a region that draws its order, in a fence: of a plain call, and of a round of a loop over a function.
-/
namespace Go.Proofs.YtipdmhppadapkaaGreatDoor
open Go.RowKit

def Plain (F : Fence) : Prop := F = Fence.wide ∨ ∃ l, F = Fence.wide.inRound l
theorem Plain.wide : Plain Fence.wide := .inl rfl
theorem Plain.round (l : Nat) : Plain (Fence.wide.inRound l) := .inr ⟨l, rfl⟩
section
variable {F : Fence} {n : Nat} {P : Program}
theorem Plain.fn (h : Plain F) (f : FuncId) : F.fn f := by rcases h with rfl | ⟨l, rfl⟩ <;> trivial
theorem Plain.rows (h : Plain F) {m : Nat} {row : String} {args : Array Value} {w : World} {R : Value → World → Prop} (hc : Rows P row args w R) : RowsIn F m P row args w R := by
  rcases h with rfl | ⟨l, rfl⟩
  · exact fun c cs _ => let ⟨v, w', r, s⟩ := hc c cs; ⟨v, w', r, stepsIn_wide.2 s⟩
  · exact fun c cs _ => let ⟨v, w', r, s⟩ := hc c cs; ⟨v, w', r, stepsIn_wide.2 s⟩
end
namespace Flow
section
variable {F : Fence} {n : Nat} {P : Program} {ops : Array Oper} {Q : Exit → Act → World → Prop} {a0 : Act} {w0 : World}
end
end Flow
namespace Reg
section
variable {F : Fence} {n : Nat} {P : Program} {ops : Array Oper} {Q : Exit → Act → World → Prop} {a0 : Act} {w0 : World}
end
end Reg
end Go.Proofs.YtipdmhppadapkaaGreatDoor
/-
  Walk: the iterator ltree.pairs: a level's nodes, two by two.
-/
namespace Go.Proofs.YtipdmhppadapkaaGreatDoor
open Go.RowKit Go.Shelf Sha

attribute [local go_sem] Oper.semAt_some

/-- what a round is handed: a number, and two nodes -/
abbrev Pr := { x : Nat × Nd × Nd // x.1 < 4294967296 ∧ x.2.1.length = 32 ∧ x.2.2.length = 32 }
/-- the box of the slice lies as it lay, and so does all below -/
def KB (B n0 : Nat) (W W' : World) : Prop := W'.heap[B]? = W.heap[B]? ∧ Below n0 W W'
theorem KB.refl (B n0 : Nat) (W : World) : KB B n0 W W := ⟨rfl, Below.refl _ _⟩
theorem KB.trans {B n0 : Nat} {X Y Z : World} (h : KB B n0 X Y) (k : KB B n0 Y Z) : KB B n0 X Z := ⟨k.1.trans h.1, h.2.trans k.2⟩
end Go.Proofs.YtipdmhppadapkaaGreatDoor
/-
  Walk: ltree.up: a level of nodes, joined two by two.
-/
namespace Go.Proofs.YtipdmhppadapkaaGreatDoor
open Go.RowKit Go.Shelf Sha

attribute [local go_sem] Oper.semAt_some

section
variable {F : Fence} {n' : Nat} {P : Program} {ops : Array Oper} {rest : List Oper} {o : Oper} {a : Act} {Q : Exit → Act → World → Prop}
end
section
variable {F : Fence} {n : Nat} {P : Program} {ops : Array Oper} {rest : List Oper} {a : Act} {w : World} {Q : Exit → Act → World → Prop} {dst : Option Tmp} {ty : TypeId} {pos : String} {aft : Array Edge} {gd : Option (Nat × Bool)}
end

theorem own_cells {w : World} {base size n : Nat} {e : TypeId} {v : Value} {xs : List Value} (h : w.ownsRow base e size v n xs) {b : Nat} {o : Obj} (hb : v.ownBlock = some b) (ho : w.heap[b]? = some o) : o.isCells = true := by
  rcases h.2 with ⟨rfl, _⟩ | ⟨g, cap, cur, rfl, _, hh, _⟩
  · cases hb
  · cases hb
    rw [hh] at ho
    cases ho; rfl
theorem own_kept {w w' : World} {base size n : Nat} {e : TypeId} {v : Value} {xs : List Value} {row : Option Nat} (h : w.ownsRow base e size v n xs) (hg : w.grownBy w' row) (hr : ∀ r, row = some r → ∃ o : Obj, w.heap[r]? = some o ∧ o.isCells = false) : w'.ownsRow base e size v n xs :=
  own_chg h (Chg.grown (Z := fun k => row = some k) hg (fun k e => e)) fun k hv hz => by
    obtain ⟨o, ho, hc⟩ := hr k hz
    rw [own_cells h hv ho] at hc; cases hc

/-- the caller's own cells between two rounds -/
structure UpI (w : World) (ab ao N cc0 : Nat) (FV : Value) (jn : Pr → Nd) (pre : List Pr) (W : World) : Prop where
  S : ∃ A c, Blk W (w.heap.size + 2) 100 #[.slice A pre.length c] ∧ W.ownsRow (w.heap.size + 1) 39 32 (.slice A pre.length c) pre.length (ncells (pre.map jn))
  F : Blk W w.heap.size 202 #[FV]
  Bx : Blk W (w.heap.size + 3) 100 #[.slice (some ⟨ab, ao, none⟩) N cc0]
  B : Below w.heap.size w W
theorem UpI.new {w W W' : World} {ab ao N cc0 : Nat} {FV : Value} {jn : Pr → Nd} {pre : List Pr} (h : UpI w ab ao N cc0 FV jn pre W) (c : Chg (fun b => b = W.heap.size) W W') : UpI w ab ao N cc0 FV jn pre W' := by
  obtain ⟨⟨A, k, h1, h2⟩, h3, h4, h5⟩ := h
  have l1 := h1.lt
  have l3 := h3.lt
  have l4 := h4.lt
  exact ⟨⟨A, k, h1.chg c (show ¬ _ = _ by omega), own_chg h2 c (fun b hb e => by have := (h2.lt b hb).2; have e : b = W.heap.size := e; omega)⟩, h3.chg c (show ¬ _ = _ by omega), h4.chg c (show ¬ _ = _ by omega), h5.trans (c.below (fun b hb => by have hb : b = W.heap.size := hb; omega) (by omega))⟩
theorem UpI.kept {w W W' : World} {ab ao N cc0 : Nat} {FV : Value} {jn : Pr → Nd} {pre : List Pr} {row : Option Nat} {B : Nat} (h : UpI w ab ao N cc0 FV jn pre W) (hB : w.heap.size ≤ B) (hg : W.grownBy W' row) (hr : ∀ r, row = some r → B ≤ r ∧ ∃ o : Obj, W.heap[r]? = some o ∧ o.isCells = false) : UpI w ab ao N cc0 FV jn pre W' := by
  obtain ⟨⟨A, k, h1, h2⟩, h3, h4, h5⟩ := h
  have hr2 := fun r e => (hr r e).2
  exact ⟨⟨A, k, h1.kept hg hr2, own_kept h2 hg hr2⟩, h3.kept hg hr2, h4.kept hg hr2, h5.grown hg h5.size (fun r e => Nat.le_trans hB (hr r e).1)⟩
end Go.Proofs.YtipdmhppadapkaaGreatDoor
/-
  Walks: the functions of a pair that ltree.Leaf and ltree.Path hand on.
-/
namespace Go.Proofs.YtipdmhppadapkaaGreatDoor
open Go.RowKit Sha

end Go.Proofs.YtipdmhppadapkaaGreatDoor
/-
  Walk: ltree.Leaf.
-/
namespace Go.Proofs.YtipdmhppadapkaaGreatDoor
open Go.RowKit Sha

structure LfI (w : World) (sd : Nd) (leaf : Nat) (wr : World) : Prop where
  S : Blk wr w.heap.size 39 (bcells sd).toArray
  I : Blk wr (w.heap.size + 1) 23 #[.int .u32 (leaf : Int)]
  N : Blk wr (w.heap.size + 2) 39 zn
  B : Below w.heap.size w wr
theorem LfI.below {w wr w' : World} {sd : Nd} {leaf B : Nat} (h : LfI w sd leaf wr) (hb : Below B wr w') (hB : w.heap.size + 2 < B) : LfI w sd leaf w' :=
  ⟨h.S.below hb (by omega), h.I.below hb (by omega), h.N.below hb hB, h.B.trans (hb.mono (by omega))⟩

end Go.Proofs.YtipdmhppadapkaaGreatDoor
/-
  Walk: portreeveref04.Leaf; both Leafs at no nodes, or too many.
-/
namespace Go.Proofs.YtipdmhppadapkaaGreatDoor
open Go.RowKit Sha

end Go.Proofs.YtipdmhppadapkaaGreatDoor
