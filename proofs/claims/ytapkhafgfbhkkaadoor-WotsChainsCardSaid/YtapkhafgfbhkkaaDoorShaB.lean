/-
  Words and bytes as cells; what the walks of SHA-256 ask of them.
-/
import Derived.Test.YtapkhafgfbhkkaaDoorOwn
import Derived.Test.YtapkhafgfbhkkaaDoorShaA
import Derived.Test.YtapkhafgfbhkkaaDoorEq
namespace Go.Proofs.YtapkhafgfbhkkaaDoor
open Go.RowKit

namespace Sha
def wcells (l : List W) : List Value := l.map fun x => .int .u32 (u x)
theorem wcells_length (l : List W) : (wcells l).length = l.length := by simp [wcells]
theorem wcells_append (a b : List W) : wcells (a ++ b) = wcells a ++ wcells b := by simp [wcells]
theorem wcells_one (l : List W) : ∀ v ∈ wcells l, v.oneCell' = true := by
  intro v hv; simp only [wcells, List.mem_map] at hv; obtain ⟨x, _, rfl⟩ := hv; rfl
theorem wcells_get (l : List W) (k : Nat) (h : k < l.length) : (wcells l)[k]? = some (.int .u32 (u (l[k]?.getD 0))) := by
  simp [wcells, h]
theorem wcells_set (l : List W) (k : Nat) (x : W) : (wcells l).toArray.setIfInBounds k (.int .u32 (u x)) = (wcells (l.set k x)).toArray := by
  simp [wcells, List.map_set]
/-- a row of n words of which the first are known -/
def row (n : Nat) (l : List W) : List W := l ++ List.replicate (n - l.length) 0
theorem row_length (n : Nat) (l : List W) (h : l.length ≤ n) : (row n l).length = n := by simp [row]; omega
theorem row_set (n : Nat) (l : List W) (x : W) (h : l.length < n) : (row n l).set l.length x = row n (l ++ [x]) := by
  unfold row
  rw [List.set_append_right _ _ (Nat.le_refl _), Nat.sub_self, show n - l.length = (n - (l ++ [x]).length) + 1 by simp; omega, List.replicate_succ]
  simp
theorem row_get (n : Nat) (l : List W) (k : Nat) (h : k < l.length) : (row n l)[k]? = l[k]? := by
  unfold row; rw [List.getElem?_append_left h]
theorem row_full (l : List W) : row l.length l = l := by simp [row]
/-- the cells of a row of words that is being filled -/
def rcells (n : Nat) (l : List W) : Array Value := (wcells (row n l)).toArray
theorem rcells_size (n : Nat) (l : List W) (h : l.length ≤ n) : (rcells n l).size = n := by simp [rcells, wcells_length, row_length n l h]
theorem rcells_set (n : Nat) (l : List W) (x : W) (h : l.length < n) : (rcells n l).setIfInBounds l.length (.int .u32 (u x)) = rcells n (l ++ [x]) := by
  unfold rcells; rw [wcells_set, row_set n l x h]
theorem rcells_get (n : Nat) (l : List W) (k : Nat) (h : k < l.length) : (rcells n l)[k]? = some (.int .u32 (u (l[k]?.getD 0))) := by
  unfold rcells
  rw [List.getElem?_toArray, wcells_get _ _ (by simp [row]; omega), row_get n l k h]
theorem rcells_any (n : Nat) (l : List W) (k : Nat) (hl : l.length ≤ n) (h : k < n) : ∃ v, (rcells n l)[k]? = some v := ⟨_, Array.getElem?_eq_getElem (by rw [rcells_size n l hl]; exact h)⟩
end Sha

theorem reg_storeInt {P : Program} {o : Oper} {a : Act} {w : World} {ty : TypeId} {x y : Tmp} (ho : o.op = .store ty (.tmp x) (.tmp y)) (hi : (P.info? ty).map (·.size) = some 1) {g off : Nat} {t : TypeId} {cs : Array Value} {k : IntKind} {z : Int} (hb : Blk w g t cs)
    (hx : a.tmps[x]?.getD undef = .pointer (some ⟨g, off, none⟩)) (hy : a.tmps[y]?.getD undef = .int k z) (hoff : off < cs.size) : (execOp a.eval o).run P w = .ok .skip (w.setCell ⟨g, off, none⟩ (.int k z)) := by
  have hc := hb.cell off
  rw [Array.getElem?_eq_getElem hoff] at hc
  have hf := hb.frozen off
  obtain ⟨i, hinf, hsz⟩ := Option.map_eq_some_iff.1 hi
  have hs : (sizeOf ty).run P w = .ok 1 w := by simp [sizeOf, typeInfo, hinf, hsz]
  simp [execOp, ho, Act.eval, hx, hy, Instr.storeAt, storeCells, Value.cells, hs, go_sem, hc, hf]
theorem wp_skip0 {P : Program} {o : Oper} {a : Act} {w w' : World} {K : Act → World → Prop} {Q : Exit → Act → World → Prop} (h : (execOp a.eval o).run P w = .ok .skip w') (hK : K (a.put o.dst undef) w') : Flow.OpWp P o a w K Q := by
  refine .inl ?_
  unfold Oper.wp
  rw [h]
  exact hK
theorem grown_setL (w : World) (g k' : Nat) (v : Value) : w.grownBy (w.setCell ⟨g, k', none⟩ v) (some g) := ⟨rfl, rfl, rfl, by simp, fun k _ hk => heap_setCell_other w ⟨g, k', none⟩ k v (fun e => hk (by simp [e]))⟩

section
variable {P : Program} {o : Oper} {a : Act} {w : World}
/-- the address of an element, at an index that is known -/
theorem reg_ixA {t e : TypeId} {x ix : Operand} {g off n s : Nat} {k : IntKind} {z : Int} (i q : Nat) (ho : o.op = .indexAddr t x ix) (hu : P.underlying t = some (.array n e)) (hs : (P.info? e).map (·.size) = some s)
    (hx : a.eval x = .pointer (some ⟨g, off, none⟩)) (hix : a.eval ix = .int k z) (hz : z = (i : Int)) (hi : i < n) (hq : q = off + i * s) : (execOp a.eval o).run P w = .ok (.value (.pointer (some ⟨g, q, none⟩))) w := by
  have hu' : P.underlying t = some (.array (P.arrayLen t) (P.elem t)) := by simp [Program.arrayLen, Program.elem, hu]
  obtain ⟨inf, hinf, hsz⟩ := Option.map_eq_some_iff.1 hs
  have he : P.elem t = e := by simp [Program.elem, hu]
  have hn : P.arrayLen t = n := by simp [Program.arrayLen, hu]
  have hr := run_indexAt_array (P := P) w t ⟨g, off, none⟩ k z hu'
  have hS : (sizeOf e).run P w = .ok s w := by simp [sizeOf, typeInfo, hinf, hsz]
  rw [he, hn, if_pos (by omega), hS] at hr
  simp only [Result.andThen_ok, hz, Int.toNat_natCast, Addr.add_mid] at hr
  subst hq
  simp [execOp, ho, hx, hix, hz, hr]
theorem reg_ixS {t e : TypeId} {x ix : Operand} {g off n c s : Nat} {k : IntKind} {z : Int} (i q : Nat) (ho : o.op = .indexAddr t x ix) (hu : P.underlying t = some (.slice e)) (hs : (P.info? e).map (·.size) = some s)
    (hx : a.eval x = .slice (some ⟨g, off, none⟩) n c) (hix : a.eval ix = .int k z) (hz : z = (i : Int)) (hi : i < n) (hq : q = off + i * s) : (execOp a.eval o).run P w = .ok (.value (.pointer (some ⟨g, q, none⟩))) w := by
  have hu' : P.underlying t = some (.slice (P.elem t)) := by simp [Program.elem, hu]
  obtain ⟨inf, hinf, hsz⟩ := Option.map_eq_some_iff.1 hs
  have he : P.elem t = e := by simp [Program.elem, hu]
  have hr := run_indexAt_slice (P := P) w t ⟨g, off, none⟩ n c k z hu'
  have hS : (sizeOf e).run P w = .ok s w := by simp [sizeOf, typeInfo, hinf, hsz]
  rw [he, if_pos (by omega), hS] at hr
  simp only [Result.andThen_ok, hz, Int.toNat_natCast, Addr.add_mid] at hr
  subst hq
  simp [execOp, ho, hx, hix, hz, hr]
end

namespace Sha
section
variable {P : Program}
theorem run_part_word (w : World) {e : TypeId} (he : P.underlying e = some (.int .u32)) (l : List W) (i : Nat) (h : i < l.length) :
    (part e (wcells l).toArray i).run P w = .ok (.int .u32 (u (l[i]?.getD 0))) w := by
  have hc : (wcells l).toArray[i]? = some (.int .u32 (u (l[i]?.getD 0))) := by
    rw [List.getElem?_toArray]; exact wcells_get l i h
  simp [part, isAgg, run_underlying he, hc]
theorem wordIndex {t e : TypeId} {n : Nat} (hu : P.underlying t = some (.array n e)) (he : P.underlying e = some (.int .u32)) (hs : (P.info? e).map (·.size) = some 1) (l : List W) (h : l.length = n) (k : Nat) (hk : k < n) (w : World) :
    (Instr.index t (.agg (wcells l).toArray) (.int .i64 (k : Int))).run P w = .ok (.int .u32 (u (l[k]?.getD 0))) w := by
  have h1 : (0 : Int) ≤ k ∧ (k : Int) < (n : Int) := by omega
  obtain ⟨inf, hinf, hsz⟩ := Option.map_eq_some_iff.1 hs
  have hS : (sizeOf e).run P w = .ok 1 w := by simp [sizeOf, typeInfo, hinf, hsz]
  have h2 := run_part_word w he l k (by omega)
  simp only [Instr.index, asIntOf, Sem.run_bind, Sem.run_pure, Result.andThen_ok, run_underlying hu, if_pos h1, hS, Int.toNat_natCast, Nat.mul_one, h2]
end
/-- the first k words added -/
def mixW (v x : V8) (k : Nat) : List W := (List.range 8).map fun i => if i < k then v.list[i]?.getD 0 + x.list[i]?.getD 0 else v.list[i]?.getD 0
theorem mixW_length (v x : V8) (k : Nat) : (mixW v x k).length = 8 := by simp [mixW]
theorem mixW_zero (v x : V8) : mixW v x 0 = v.list := by rfl
theorem mixW_all (v x : V8) : mixW v x 8 = (v.add x).list := by rfl
theorem mixW_get (v x : V8) (k : Nat) (h : k < 8) : (mixW v x k)[k]?.getD 0 = v.list[k]?.getD 0 := by
  simp [mixW, h]
theorem mixW_succ (v x : V8) (k : Nat) (h : k < 8) : (mixW v x k).set k (v.list[k]?.getD 0 + x.list[k]?.getD 0) = mixW v x (k + 1) := by
  apply List.ext_getElem?
  intro i
  rw [List.getElem?_set]
  by_cases e : k = i
  · subst e
    simp [mixW, h]
  · rw [if_neg e]
    simp only [mixW, List.getElem?_map]
    cases hr : (List.range 8)[i]? with
    | none => rfl
    | some j =>
      have hj : j = i := by
        rw [List.getElem?_range] at hr
        · simp at hr; exact hr.symm
        · have := (List.getElem?_eq_some_iff.1 hr).1; simpa using this
      subst hj
      simp only [Option.map_some]
      have : (j < k) = (j < k + 1) := by apply propext; constructor <;> intro h <;> omega
      simp only [this]
theorem wtail_set (l : List W) (tail : List Value) (k : Nat) (x : W) (h : k < l.length) : (wcells l ++ tail).toArray.setIfInBounds k (.int .u32 (u x)) = (wcells (l.set k x) ++ tail).toArray := by
  simp only [List.setIfInBounds_toArray]
  rw [List.set_append_left _ _ (by rw [wcells_length]; exact h)]
  simp [wcells, List.map_set]
theorem wtail_get (l : List W) (tail : List Value) (k : Nat) (h : k < l.length) : (wcells l ++ tail)[k]? = some (.int .u32 (u (l[k]?.getD 0))) := by
  rw [List.getElem?_append_left (by rw [wcells_length]; exact h), wcells_get l k h]
theorem V8.list_length (v : V8) : v.list.length = 8 := rfl
end Sha
theorem blk_new1 (w : World) (o : Obj) (t : TypeId) (cs : Array Value) : Blk ((w.alloc o).alloc (.cells cs t)) (w.heap.size + 1) t cs := by
  have := Blk.new (w.alloc o) t cs
  rw [World.size_alloc] at this; exact this
end Go.Proofs.YtapkhafgfbhkkaaDoor
