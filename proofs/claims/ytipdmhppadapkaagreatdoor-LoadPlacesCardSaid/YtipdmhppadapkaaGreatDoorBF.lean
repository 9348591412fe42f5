/-
  Parts: LtA WeA WeB WeC WeD WeE WeF ChX WeG.
-/
import Derived.Test.YtipdmhppadapkaaGreatDoorBE
import Derived.Test.YtipdmhppadapkaaGreatDoorBA
/-
  Trees of nodes, plain: a level joined; the leaf of a key; the way to the root; the neighbours of a leaf. WOTS+ keys, plain.
-/
namespace Go.Proofs.YtipdmhppadapkaaGreatDoor
open Go.RowKit Sha

abbrev Nd := List UInt8
/-- the k-th node of a list -/
def at_ (l : List Nd) (k : Nat) : Nd := l[k]?.getD []
theorem at_get (l : List Nd) (k : Nat) (h : k < l.length) : at_ l k = l[k] := by simp [at_, h]
def All32 (l : List Nd) : Prop := ∀ x ∈ l, x.length = 32
theorem All32.at_ {l : List Nd} (h : All32 l) {k : Nat} (hk : k < l.length) : (at_ l k).length = 32 := by rw [at_get l k hk]; exact h _ (List.getElem_mem hk)
/-! ### WOTS+ -/
def pubN (sig : List Nd) (m sd : Nd) (leaf i : Nat) : Nd := chainN sd leaf i (digAll m i) (15 - digAll m i) (at_ sig i)
/-! ### Levels -/
def upL (join : Nat → Nd → Nd → Nd) (l : List Nd) : List Nd := upto (fun i => join i (at_ l (2 * i)) (at_ l (2 * i + 1))) (l.length / 2) ++ l.drop (l.length / 2 * 2)
/-- level by level, until one is left -/
def leafV (jh : Nat → Nat → Nd → Nd → Nd) : Nat → Nat → List Nd → Nd
  | 0, _, l => at_ l 0
  | f + 1, h, l => if l.length ≤ 1 then at_ l 0 else leafV jh f (h + 1) (upL (jh h) l)
def ltreeAd (a h i : Nat) : Ad := ⟨0, 0, 1, a, h, i, 0⟩
def treeAd (h i : Nat) : Ad := ⟨0, 0, 2, 0, h, i, 0⟩
def joinL (sd : Nd) (leaf h i : Nat) (a b : Nd) : Nd := randH a b sd (ltreeAd leaf h i)
/-- the leaf of a key's nodes -/
def ltLeaf (sd : Nd) (leaf : Nat) (pk : List Nd) : Nd := if pk.length = 0 ∨ 1000 < pk.length then znode else leafV (joinL sd leaf) pk.length 0 pk
/-! ### The way to the root -/
def rootStep (sd : Nd) (idx k : Nat) (n a : Nd) : Nd := if idx / 2 ^ k % 2 = 0 then randH n a sd (treeAd k (idx / 2 ^ (k + 1))) else randH a n sd (treeAd k (idx / 2 ^ (k + 1)))
def rootN (sd leaf : Nd) (idx : Nat) (auth : List Nd) : Nat → Nd
  | 0 => leaf
  | k + 1 => rootStep sd idx k (rootN sd leaf idx auth k) (at_ auth k)
def rootV (sd leaf : Nd) (idx : Nat) (auth : List Nd) : Nd := if 32 < auth.length then znode else rootN sd leaf idx auth auth.length
/-! ### The neighbours of a leaf -/
end Go.Proofs.YtipdmhppadapkaaGreatDoor
/-
  Walk: wots.each: a node for each of the 67 chains, by a function value.
-/
namespace Go.Proofs.YtipdmhppadapkaaGreatDoor
open Go.RowKit Sha

section
variable {P : Program} {ops : Array Oper} {rest : List Oper} {o : Oper} {a : Act} {Q : Exit → Act → World → Prop}
/-- a call of a function value -/
theorem wpList_callF {w : World} {f : FuncId} {fn : Func} {c : Code} {x : Tmp} {args : Array Operand} {tys : Array TypeId} {caps vals : Array Value} {R : Ending → World → Prop} (hgd : o.guard = none)
    (ho : o.op = .call { callee := .value (.tmp x), args := args, argTypes := tys }) (hx : a.tmps[x]?.getD undef = .func (.func f) #[] caps) (hf : P.funcs[f]? = some fn) (hb : fn.body = some c) (hname : (fn.name == "runtime.NumGoroutine") = false)
    (hv : args.map a.eval ++ caps = vals) (h : Calls P f vals w R) (hR : ∀ e w', R e w' → ∃ v, e = .returned v ∧ wpList P ops Q rest (a.put o.dst v) w') : wpList P ops Q (o :: rest) a w := by
  refine wpList_plain hgd fun K hK => ?_
  have h1 : fn.name ≠ "runtime.NumGoroutine" := by simpa using hname
  have hrun : (execOp a.eval o).run P w = .ok (.enter f vals) w := by
    simp [execOp, ho, resolve, Act.eval, hx, Deferred.ofValue, invoke, callFunc, hf, h1, hb]
    exact hv
  unfold Oper.wp
  rw [hrun]
  refine Calls.mono h fun e w' hr => ?_
  obtain ⟨v, rfl, h2⟩ := hR e w' hr
  exact hK _ _ h2
end
section
variable {P : Program} {ops : Array Oper} {rest : List Oper} {a : Act} {w : World} {Q : Exit → Act → World → Prop} {dst : Option Tmp} {ty : TypeId} {pos : String} {aft : Array Edge} {gd : Option (Nat × Bool)}
theorem at_callF (x : Tmp) {args : Array Operand} {tys : Array TypeId} (h : wpList P ops Q (⟨dst, .call ⟨.value (.tmp x), args, tys⟩, ty, pos, aft, gd⟩ :: rest) a w) : wpList P ops Q (⟨dst, .call ⟨.value (.tmp x), args, tys⟩, ty, pos, aft, gd⟩ :: rest) a w := h
end

end Go.Proofs.YtipdmhppadapkaaGreatDoor
/-
  Walks: wots.Secret; the functions of a chain that wots.Public, Key and Sign hand on.
-/
namespace Go.Proofs.YtipdmhppadapkaaGreatDoor
open Go.RowKit Sha

end Go.Proofs.YtipdmhppadapkaaGreatDoor
/-
  Walks: wots.Public, wots.Key, wots.Sign.
-/
namespace Go.Proofs.YtipdmhppadapkaaGreatDoor
open Go.RowKit Sha

def pubsV (ns : List Nd) (m sd : Nd) (leaf : Nat) : List Nd := if ns.length = 67 then upto (pubN ns m sd leaf) 67 else []
end Go.Proofs.YtipdmhppadapkaaGreatDoor
/-
  Walks: portreeveref04.Secret, Public and Ends; both Secrets at a chain that is none.
-/
namespace Go.Proofs.YtipdmhppadapkaaGreatDoor
open Go.RowKit Sha

end Go.Proofs.YtipdmhppadapkaaGreatDoor
/-
  Walks: portreeveref04.Public and Ends.
-/
namespace Go.Proofs.YtipdmhppadapkaaGreatDoor
open Go.RowKit Sha

end Go.Proofs.YtipdmhppadapkaaGreatDoor
/-
  Walk: portreeveref04.Ends.
-/
namespace Go.Proofs.YtipdmhppadapkaaGreatDoor
open Go.RowKit Sha

end Go.Proofs.YtipdmhppadapkaaGreatDoor
/-
  Walk: portreevelaw06.WotsChains.
-/
namespace Go.Proofs.YtipdmhppadapkaaGreatDoor
open Go.RowKit Sha

end Go.Proofs.YtipdmhppadapkaaGreatDoor
/-
  Walks: the laws WotsSteps and WotsPublic.
-/
namespace Go.Proofs.YtipdmhppadapkaaGreatDoor
open Go.RowKit Sha

end Go.Proofs.YtipdmhppadapkaaGreatDoor
