/-
  Walk: xmss.SigOf of bytes of the right length.
-/
import Derived.Test.YtnjfghlgknnhmaaXmssF
import Derived.Test.YtnjfghlgknnhmaaOwn
namespace Go.Proofs.Ytnjfghlgknnhmaa
open Go.RowKit

structure Sg where
  i : Nat
  r : List UInt8
  ots : List (List UInt8)
  auth : List (List UInt8)
def nodeAt (l : List UInt8) (k : Nat) : List UInt8 := (l.drop (36 + 32 * k)).take 32
def nodesAt (l : List UInt8) (p n : Nat) : List (List UInt8) := (List.range n).map fun k => nodeAt l (p + k)
theorem nodesAt_succ (l : List UInt8) (p n : Nat) : nodesAt l p (n + 1) = nodesAt l p n ++ [nodeAt l (p + n)] := by simp [nodesAt, List.range_succ]
theorem nodeAt_length (l : List UInt8) (k : Nat) (h : 36 + 32 * k + 32 ≤ l.length) : (nodeAt l k).length = 32 := by simp [nodeAt]; omega

theorem elN : Elem Try.prog 30 29 (.agg (bcells zeroNode0).toArray) 32 32 := Elem.of (by kernel_rfl) (by kernel_rfl) rfl (by omega)
theorem sg36 (idx : Nat) (r : List UInt8) (v1 v2 v3 : Value) (hr : r.length = 32) : (sigCells idx r v1 v2 ++ [v3]).toArray.size = 36 := by simp [sigCells, bcells_length, hr]
theorem sg_set33 (idx : Nat) (r : List UInt8) (v1 v2 v3 v : Value) (hr : r.length = 32) : (sigCells idx r v1 v2 ++ [v3]).toArray.setIfInBounds 33 v = (sigCells idx r v v2 ++ [v3]).toArray := by
  have hl : (bcells r).length = 32 := by rw [bcells_length]; exact hr
  simp [sigCells, hl]
theorem sg_set34 (idx : Nat) (r : List UInt8) (v1 v2 v3 v : Value) (hr : r.length = 32) : (sigCells idx r v1 v2 ++ [v3]).toArray.setIfInBounds 34 v = (sigCells idx r v1 v ++ [v3]).toArray := by
  have hl : (bcells r).length = 32 := by rw [bcells_length]; exact hr
  simp [sigCells, hl]
theorem run_node1 (w : World) (nd : List UInt8) (h : nd.length = 32) : (Instr.buildSlice 30 1 #[(0, .agg (bcells nd).toArray)]).run Try.prog w = .ok (.slice (some ⟨w.heap.size, 0, none⟩) 1 1) (w.alloc (.cells (bcells nd).toArray 29)) := by
  have := run_buildSlice_all (P := Try.prog) w elN 1 #[(0, .agg (bcells nd).toArray)] [.agg (bcells nd).toArray] rfl rfl (by omega) (by omega) (by simp [Value.cells, bcells_length, h])
  simpa [flat, Value.cells] using this

/-- append(l, n), n laid in a new block ahead -/
theorem wpList_appNode {ops : Array Oper} {rest : List Oper} {o : Oper} {a : Act} {Q : Exit → Act → World → Prop} (W : World) (hgd : o.guard = none) (s x : Operand) (ho : o.op = .call { callee := .builtin .append, args := #[s, x], argTypes := #[30, 30] })
    (base : Nat) (A : Option Addr) (k c : Nat) (ns : List (List UInt8)) (nd : List UInt8) (hnd : nd.length = 32) (hs : a.eval s = .slice A k c) (hown : W.ownsRow base 29 32 (.slice A k c) k (ncells ns))
    (hx : a.eval x = .slice (some ⟨W.heap.size, 0, none⟩) 1 1) (hk : k ≤ 100000) (hbase : base ≤ W.heap.size)
    (h : ∀ A1 c1 W5, W5.ownsRow base 29 32 (.slice A1 (k + 1) c1) (k + 1) (ncells (ns ++ [nd])) → Chg (fun b => (Value.slice A k c).ownBlock = some b) W W5 → Below base W W5 →
      (∀ b, (Value.slice A1 (k + 1) c1).ownBlock = some b → (Value.slice A k c).ownBlock = some b ∨ W.heap.size ≤ b) → wpList Try.prog ops Q rest (a.put o.dst (.slice A1 (k + 1) c1)) W5) :
    wpList Try.prog ops Q (o :: rest) a (W.alloc (.cells (bcells nd).toArray 29)) := by
  have hB := Blk.new W 29 (bcells nd).toArray
  refine wpList_app (W.alloc (.cells (bcells nd).toArray 29)) elN hgd s x ho base A k c _ hs (hown.alloc _) _ (some ⟨W.heap.size, 0, none⟩) 1 1 (bcells nd) hx
    (by have := hB.rd (size := 32) (n := 1) (by simp [bcells_length, hnd]); simpa using this) (bcells_one nd) (by omega) (by omega) (by simp; omega) ?_
  intro A1 c1 W5 hO5 hg5 hB5 hob
  refine h A1 c1 W5 (by rw [ncells_snoc]; exact hO5) ((Chg.of_ext ((Ext.refl W).alloc _)).trans (Chg.grown hg5 fun b hb => hb)) (((Below.refl base W).alloc hbase _).trans hB5) fun b hb => ?_
  rcases hob with h4 | h4
  · left; rw [← h4]; exact hb
  · right; rw [hb] at h4; cases h4; simp
end Go.Proofs.Ytnjfghlgknnhmaa
