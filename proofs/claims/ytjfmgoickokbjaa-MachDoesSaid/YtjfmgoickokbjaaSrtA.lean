/-
  The library's sort at uint64: the row, what is handed back, Less; laws for one operation.
-/
import Derived.Test.YtjfmgoickokbjaaFlow
import Derived.Test.YtjfmgoickokbjaaOwn
import Derived.Test.YtjfmgoickokbjaaStore2
import Derived.Sort.AssemblyPlain
import Derived.Deep.Cut
namespace Go.Proofs.Ytjfmgoickokbjaa
open Go.RowKit

def ltN (x y : Nat) : Bool := decide (x < y)
theorem swoN : Sort.SWO ltN := ⟨fun x => by simp [ltN], fun x y z h1 h2 => by simp [ltN] at *; omega, fun x y z h1 h2 => by simp [ltN] at *; omega⟩
def ucells (l : List Nat) : List Value := l.map fun x : Nat => Value.int .u64 ((x : Nat) : Int)
theorem ucells_length (l : List Nat) : (ucells l).length = l.length := by simp [ucells]
/-- block g holds d, and R behind it -/
abbrev NR (w : World) (g : Nat) (d : Array Nat) (R : List Value) : Prop := Blk w g 22 (ucells d.toList ++ R).toArray
theorem nr_cell {w : World} {g : Nat} {d : Array Nat} {R : List Value} (h : NR w g d R) (i : Nat) (hi : i < d.size) : w.cell? ⟨g, i, none⟩ = some (.int .u64 ((d[i]! : Nat) : Int)) := by
  have h2 : Blk w g 22 (ucells d.toList ++ R).toArray := h
  have hi2 : i < d.toList.length := by simpa using hi
  rw [h2.cell, List.getElem?_toArray, List.getElem?_append_left (by rw [ucells_length]; exact hi2)]
  simp [ucells, hi]
theorem nr_set {w : World} {g : Nat} {d : Array Nat} {R : List Value} (h : NR w g d R) (i : Nat) (hi : i < d.size) (x : Nat) : NR (w.setCell ⟨g, i, none⟩ (.int .u64 (x : Int))) g (d.setIfInBounds i x) R := by
  have h2 := Blk.set_ (show Blk w g 22 (ucells d.toList ++ R).toArray from h) i (.int .u64 (x : Int))
  have e : (ucells d.toList ++ R).toArray.setIfInBounds i (.int .u64 (x : Int)) = (ucells (d.setIfInBounds i x).toList ++ R).toArray := by
    rw [List.setIfInBounds_toArray, List.set_append_left _ _ (by rw [ucells_length]; simpa using hi)]
    simp [ucells, List.map_set]
  rw [e] at h2
  exact h2
theorem nr_size {d : Array Nat} {R : List Value} {i : Nat} (hi : i < d.size) : i < (ucells d.toList ++ R).toArray.size := by
  rw [List.size_toArray, List.length_append, ucells_length]
  have : d.toList.length = d.size := by simp
  omega
def OnlyG (g : Nat) : Nat → Prop := fun b => b = g
/-- what a sorting function hands back -/
def SRet (w : World) (g : Nat) (R : List Value) (Q : Array Nat → Prop) (e : Ending) (w' : World) : Prop := e = .returned (.tuple #[]) ∧ ∃ d', Q d' ∧ NR w' g d' R ∧ Chg (OnlyG g) w w'

theorem s_ixS {P : Program} {o : Oper} {a : Act} {w : World} {t e : TypeId} {x ix : Operand} {g off n c s : Nat} {k : IntKind} {z : Int} (i q : Nat) (ho : o.op = .indexAddr t x ix) (hu : P.underlying t = some (.slice e)) (hs : (P.info? e).map (·.size) = some s)
    (hx : a.eval x = .slice (some ⟨g, off, none⟩) n c) (hix : a.eval ix = .int k z) (hz : z = (i : Int)) (hi : i < n) (hq : q = off + i * s) : (execOp a.eval o).run P w = .ok (.value (.pointer (some ⟨g, q, none⟩))) w := by
  have hu' : P.underlying t = some (.slice (P.elem t)) := by simp [Program.elem, hu]
  obtain ⟨inf, hinf, hsz⟩ := Option.map_eq_some_iff.1 hs
  have he : P.elem t = e := by simp [Program.elem, hu]
  have hr := run_indexAt_slice (P := P) w t ⟨g, off, none⟩ n c k z hu'
  have hS : (sizeOf e).run P w = .ok s w := by simp [sizeOf, typeInfo, hinf, hsz]
  rw [he, if_pos (by omega), hS] at hr
  simp only [Result.andThen_ok, hz, Int.toNat_natCast, Addr.add_mid] at hr
  subst hq
  simp [execOp, ho, hx, hix, hz, hr]
theorem s_store {P : Program} {o : Oper} {a : Act} {w : World} {ty : TypeId} {x y : Tmp} (ho : o.op = .store ty (.tmp x) (.tmp y)) (hi : (P.info? ty).map (·.size) = some 1) {g off : Nat} {t : TypeId} {cs : Array Value} {k : IntKind} {z : Int} (hb : Blk w g t cs)
    (hx : a.tmps[x]?.getD undef = .pointer (some ⟨g, off, none⟩)) (hy : a.tmps[y]?.getD undef = .int k z) (hoff : off < cs.size) : (execOp a.eval o).run P w = .ok .skip (w.setCell ⟨g, off, none⟩ (.int k z)) := by
  have hc := hb.cell off
  rw [Array.getElem?_eq_getElem hoff] at hc
  have hf := hb.frozen off
  obtain ⟨i, hinf, hsz⟩ := Option.map_eq_some_iff.1 hi
  have hs : (sizeOf ty).run P w = .ok 1 w := by simp [sizeOf, typeInfo, hinf, hsz]
  simp [execOp, ho, Act.eval, hx, hy, Instr.storeAt, storeCells, Value.cells, hs, go_sem, hc, hf]
theorem s_skip {P : Program} {o : Oper} {a : Act} {w w' : World} {K : Act → World → Prop} {Q : Exit → Act → World → Prop} (h : (execOp a.eval o).run P w = .ok .skip w') (hK : K (a.put o.dst undef) w') : Flow.OpWp P o a w K Q := by
  refine .inl ?_
  unfold Oper.wp
  rw [h]
  exact hK
theorem s_grown (w : World) (g k' : Nat) (v : Value) : w.grownBy (w.setCell ⟨g, k', none⟩ v) (some g) := ⟨rfl, rfl, rfl, by simp, fun k _ hk => heap_setCell_other w ⟨g, k', none⟩ k v (fun e => hk (by simp [e]))⟩
/-- the frame, kept by a store into the row -/
theorem onlyg_trans {g : Nat} {Z : Nat → Prop} {a b c : World} (h : Chg (OnlyG g) a b) (k : Chg Z b c) (hZ : ∀ j, Z j → j = g) : Chg (OnlyG g) a c := h.trans (k.mono hZ)

theorem swp_size (d : Array Nat) (i j : Nat) : (Sort.swp d i j).size = d.size := by simp [Sort.swp]
/-- a region whose ways join behind it -/
theorem s_cut {P : Program} {id : Nat} {ops : Array Oper} {Q : Exit → Act → World → Prop} {a0 : Act} {w0 : World} (M : List (Option Tmp)) (prop : (Tmp → Value) → World → Prop)
    (first : ∀ Q' : Exit → Act → World → Prop, (∀ f w, prop f w → Q' .normal ⟨(Reg.sel f M a0.tmps.toList).toArray, a0.defers⟩ w) → (Code.region id ops true).wp P Q' a0 w0)
    (rest : ∀ f w, prop f w → Q .normal ⟨(Reg.sel f M a0.tmps.toList).toArray, a0.defers⟩ w) : (Code.region id ops true).wp P Q a0 w0 := first Q rest

set_option maxRecDepth 100000 in
theorem lessN (x y : Nat) (w : World) : Calls Try.prog 77 #[.int .u64 (x : Int), .int .u64 (y : Int)] w fun e w' => e = .returned (.bool (ltN x y)) ∧ w' = w := by
  have hn : ∀ (z : Int) (W : World), Calls Try.prog 87 #[.int .u64 z] W fun e w' => e = .returned (.bool false) ∧ w' = W := by
    intro z W
    go_enter Try.func87, Try.ntmps87
    go_wp2
    go_ret
    exact ⟨by simp, rfl⟩
  have hx := hn (x : Int) w
  clear hn
  go_enter Try.func77, Try.ntmps77
  go_wp2_with fail
  refine Calls.mono hx ?_
  rintro e w' ⟨rfl, rfl⟩
  go_wp2
  go_ret
  exact ⟨by simp [ltN], rfl⟩
end Go.Proofs.Ytjfmgoickokbjaa
