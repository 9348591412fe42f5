/-
  Rows of nodes that the call itself makes; one cell stored into a block that is known whole.
-/
import Derived.Test.YtjfmgoickokbjaaFlow
import Derived.Test.YtjfmgoickokbjaaBuild
namespace Go.Proofs.Ytjfmgoickokbjaa
open Go.RowKit

theorem own_ne {w : World} {base size n : Nat} {e t : TypeId} {v : Value} {xs : List Value} {g b : Nat} {cs : Array Value} (h : w.ownsRow base e size v n xs) (hb : Blk w g t cs) (hte : t ≠ e) (hv : v.ownBlock = some b) : b ≠ g := by
  rintro rfl
  rcases h.2 with ⟨rfl, _⟩ | ⟨g', cap, cur, rfl, _, hh, _⟩
  · cases hv
  · cases hv
    unfold Blk at hb
    rw [hb] at hh
    injection hh with hh
    injection hh with _ h2
    exact hte h2
theorem own_some {w : World} {base size n : Nat} {e : TypeId} {v : Value} {xs : List Value} {b : Nat} (h : w.ownsRow base e size v n xs) (hv : v.ownBlock = some b) : base ≤ b ∧ b < w.heap.size := h.lt b hv

/-- nodes one behind the other -/
def ncells (ns : List (List UInt8)) : List Value := (ns.map bcells).flatten
theorem ncells_nil : ncells [] = [] := rfl
theorem ncells_snoc (ns : List (List UInt8)) (x : List UInt8) : ncells (ns ++ [x]) = ncells ns ++ bcells x := by simp [ncells]
theorem ncells_append (a b : List (List UInt8)) : ncells (a ++ b) = ncells a ++ ncells b := by simp [ncells]
theorem ncells_length : ∀ (ns : List (List UInt8)), (∀ x ∈ ns, x.length = 32) → (ncells ns).length = ns.length * 32
  | [], _ => rfl
  | x :: ns, h => by
    have := ncells_length ns fun y hy => h y (by simp [hy])
    simp only [ncells, List.map_cons, List.flatten_cons, List.length_append, bcells_length] at *
    rw [this, h x (by simp)]; simp; omega
theorem ncells_get (ns : List (List UInt8)) (h : ∀ x ∈ ns, x.length = 32) (k : Nat) (hk : k < ns.length) : ((ncells ns).drop (k * 32)).take 32 = bcells ns[k] := by
  have e : ns = ns.take k ++ (ns[k] :: ns.drop (k + 1)) := by rw [← List.drop_eq_getElem_cons hk, List.take_append_drop]
  have h1 : (ncells (ns.take k)).length = k * 32 := by
    rw [ncells_length _ fun x hx => h x (List.mem_of_mem_take hx), List.length_take, Nat.min_eq_left (by omega)]
  have e2 : ncells ns = ncells (ns.take k) ++ (bcells ns[k] ++ ncells (ns.drop (k + 1))) := by
    have e3 : ncells (ns[k] :: ns.drop (k + 1)) = bcells ns[k] ++ ncells (ns.drop (k + 1)) := by simp only [ncells, List.map_cons, List.flatten_cons]
    rw [← e3, ← ncells_append, ← e]
  rw [e2, List.drop_left' h1, List.take_left' (by rw [bcells_length]; exact h _ (List.getElem_mem hk))]
section
variable {P : Program} {o : Oper} {a : Act} {w : World}
/-- x.f = v, a slice -/
theorem reg_storeSlice {ty : TypeId} {x y : Tmp} (ho : o.op = .store ty (.tmp x) (.tmp y)) (hi : (P.info? ty).map (·.size) = some 1) {g off : Nat} {t : TypeId} {cs : Array Value} {A : Option Addr} {n c : Nat} (hb : Blk w g t cs)
    (hx : a.tmps[x]?.getD undef = .pointer (some ⟨g, off, none⟩)) (hy : a.tmps[y]?.getD undef = .slice A n c) (hoff : off < cs.size) : (execOp a.eval o).run P w = .ok .skip (w.setCell ⟨g, off, none⟩ (.slice A n c)) := by
  have hc := hb.cell off
  rw [Array.getElem?_eq_getElem hoff] at hc
  have hf := hb.frozen off
  obtain ⟨i, hinf, hsz⟩ := Option.map_eq_some_iff.1 hi
  have hs : (sizeOf ty).run P w = .ok 1 w := by simp [sizeOf, typeInfo, hinf, hsz]
  simp [execOp, ho, Act.eval, hx, hy, Instr.storeAt, storeCells, Value.cells, hs, go_sem, hc, hf]
theorem wp_skip {a : Act} {w w' : World} {K : Act → World → Prop} {Q : Exit → Act → World → Prop} (h : (execOp a.eval o).run P w = .ok .skip w') (hK : K (a.put o.dst undef) w') : Flow.OpWp P o a w K Q := by
  refine .inl ?_
  unfold Oper.wp
  rw [h]
  exact hK
variable {ops : Array Oper} {rest : List Oper} {Q : Exit → Act → World → Prop}
theorem wpList_runV {w w' : World} {v : Value} (hw : Region.wanted o (yielded ops a.tmps) = true) (h : (execOp a.eval o).run P w = .ok (.value v) w') (hk : wpList P ops Q rest (a.put o.dst v) w') : wpList P ops Q (o :: rest) a w :=
  wpList_step fun K hK => by
    rw [if_pos hw]
    unfold Oper.wp
    rw [h]
    exact hK _ _ hk
theorem wpList_runS {w w' : World} (hw : Region.wanted o (yielded ops a.tmps) = true) (h : (execOp a.eval o).run P w = .ok .skip w') (hk : wpList P ops Q rest (a.put o.dst undef) w') : wpList P ops Q (o :: rest) a w :=
  wpList_step fun K hK => by
    rw [if_pos hw]
    unfold Oper.wp
    rw [h]
    exact hK _ _ hk
end
section
variable {P : Program} {ops : Array Oper} {rest : List Oper} {a : Act} {w : World} {Q : Exit → Act → World → Prop} {dst : Option Tmp} {ty : TypeId} {pos : String} {aft : Array Edge} {gd : Option (Nat × Bool)}
theorem at_buildSlice (t : TypeId) {n : Nat} {parts : Array (Nat × Operand)} (h : wpList P ops Q (⟨dst, .buildSlice t n parts, ty, pos, aft, gd⟩ :: rest) a w) : wpList P ops Q (⟨dst, .buildSlice t n parts, ty, pos, aft, gd⟩ :: rest) a w := h
theorem at_append {args : Array Operand} {tys : Array TypeId} (h : wpList P ops Q (⟨dst, .call ⟨.builtin .append, args, tys⟩, ty, pos, aft, gd⟩ :: rest) a w) : wpList P ops Q (⟨dst, .call ⟨.builtin .append, args, tys⟩, ty, pos, aft, gd⟩ :: rest) a w := h
end
end Go.Proofs.Ytjfmgoickokbjaa
