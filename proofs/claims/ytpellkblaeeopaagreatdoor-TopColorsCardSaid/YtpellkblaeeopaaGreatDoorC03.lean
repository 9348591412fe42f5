/-
  Parts: Store Build Own Store2 SrtA SrtB.
-/
import Derived.Test.YtpellkblaeeopaaGreatDoorC00
import Derived.Deep.MidRow
import Derived.Great.FillDense
import Derived.Laws.Tables
import Derived.Great.BuildSlice
import Derived.Test.YtpellkblaeeopaaGreatDoorC02
import Derived.Sort.AssemblyPlain
import Derived.Deep.Cut
/-
  Whole values stored into, and loaded out of, blocks that are known whole; results that lie in a cell.
-/
namespace Go.Proofs.YtpellkblaeeopaaGreatDoor
open Go.RowKit

theorem splice_nil {α : Type} (L : List α) (o : Nat) : splice L o [] = L := by simp [splice]
theorem splice_cons {α : Type} (L : List α) (o : Nat) (v : α) (r : List α) (h : o < L.length) : splice (L.set o v) (o + 1) r = splice L o (v :: r) := by
  have e : (L.set o v).take (o + 1) = L.take o ++ [v] := by
    rw [List.take_succ_eq_append_getElem (by simpa using h), List.take_set_of_le (Nat.le_refl _)]; simp
  simp only [splice, List.length_cons, e, show o + 1 + r.length = o + (r.length + 1) by omega]
  rw [List.drop_set_of_lt (by omega)]
  simp
theorem splice_all {α : Type} (L cs : List α) (h : cs.length = L.length) : splice L 0 cs = cs := by simp [splice, h]

theorem Blk.setCells {g : Nat} {t : TypeId} : ∀ (vs : List Value) (o : Nat) (w : World) (cur : Array Value), Blk w g t cur → o + vs.length ≤ cur.size →
    Blk (w.setCells g o vs) g t (splice cur.toList o vs).toArray ∧ w.grownBy (w.setCells g o vs) (some g) ∧ (w.setCells g o vs).heap.size = w.heap.size
  | [], o, w, cur, h, _ => by rw [splice_nil]; exact ⟨h, World.grownBy.refl _ _, rfl⟩
  | v :: r, o, w, cur, h, hl => by
    simp only [List.length_cons] at hl
    obtain ⟨h1, h2, h3⟩ := Blk.setCells r (o + 1) (w.setCell ⟨g, o, none⟩ v) (cur.setIfInBounds o v) (h.set_ o v) (by simp; omega)
    rw [Array.toList_setIfInBounds, splice_cons _ _ _ _ (by simp; omega)] at h1
    have hg : w.grownBy (w.setCell ⟨g, o, none⟩ v) (some g) := ⟨rfl, rfl, rfl, by simp, fun k _ hk => heap_setCell_other w ⟨g, o, none⟩ k v (fun e => hk (by simp [e]))⟩
    exact ⟨h1, hg.trans h2, h3.trans (by simp)⟩

theorem Blk.there {w : World} {g : Nat} {t : TypeId} {cs : Array Value} (h : Blk w g t cs) (o n : Nat) (hn : o + n ≤ cs.size) : w.there g o n := fun j hj => by
  have hc := h.cell (o + j)
  rw [Array.getElem?_eq_getElem (by omega)] at hc
  exact ⟨by rw [hc]; rfl, h.frozen _⟩

section
variable {P : Program} {ops : Array Oper} {rest : List Oper} {o : Oper} {a : Act} {Q : Exit → Act → World → Prop}
/-- a whole value goes into a part of a block that is known whole -/
theorem wpList_storeBlk (w : World) (hgd : o.guard = none) (ty : TypeId) (x y : Operand) (ho : o.op = .store ty x y) (g off : Nat) (te : TypeId) (cur cells : Array Value) (hb : Blk w g te cur)
    (hx : a.eval x = .pointer (some ⟨g, off, none⟩)) (hy : a.eval y = .agg cells) (hfit : off + cells.size ≤ cur.size) (hi : (P.info? ty).map (·.size) = some cells.size) (h1 : ∀ v ∈ cells.toList, v.oneCell' = true)
    (h : ∀ w', Blk w' g te (splice cur.toList off cells.toList).toArray → w.grownBy w' (some g) → w'.heap.size = w.heap.size → wpList P ops Q rest (a.put o.dst undef) w') : wpList P ops Q (o :: rest) a w := by
  refine wpList_store_mid hgd ty x y ho g off cells hx hy (hb.there off cells.size hfit) hi (by rw [Array.all_eq_true]; intro i hi; exact h1 _ (by simp)) ?_
  obtain ⟨h2, h3, h4⟩ := Blk.setCells cells.toList off w cur hb (by simpa using hfit)
  exact h _ h2 h3 h4
/-- the whole block is written -/
theorem wpList_storeAll (w : World) (hgd : o.guard = none) (ty : TypeId) (x y : Operand) (ho : o.op = .store ty x y) (g : Nat) (te : TypeId) (cur cells : Array Value) (hb : Blk w g te cur)
    (hx : a.eval x = .pointer (some ⟨g, 0, none⟩)) (hy : a.eval y = .agg cells) (hfit : cells.size = cur.size) (hi : (P.info? ty).map (·.size) = some cells.size) (h1 : ∀ v ∈ cells.toList, v.oneCell' = true)
    (h : ∀ w', Blk w' g te cells → w.grownBy w' (some g) → w'.heap.size = w.heap.size → wpList P ops Q rest (a.put o.dst undef) w') : wpList P ops Q (o :: rest) a w :=
  wpList_storeBlk w hgd ty x y ho g 0 te cur cells hb hx hy (by omega) hi h1 (fun w' h2 h3 h4 => h w' (by rw [splice_all _ _ (by simpa using hfit)] at h2; exact h2) h3 h4)
/-- a whole value out of a block that is known whole -/
theorem wpList_loadAll (w : World) (hgd : o.guard = none) (ty : TypeId) (x : Operand) (ho : o.op = .load ty x) (g : Nat) (te : TypeId) (cells : Array Value) (hb : Blk w g te cells) (d : TypeDesc)
    (hx : a.eval x = .pointer (some ⟨g, 0, none⟩)) (hu : P.underlying ty = some d) (hd : (match d with | .struct _ | .array _ _ => true | _ => false) = true) (hi : (P.info? ty).map (·.size) = some cells.size)
    (h : wpList P ops Q rest (a.put o.dst (.agg cells)) w) : wpList P ops Q (o :: rest) a w :=
  wpList_load_row hgd ty x ho g hx te cells (0, 0) d hb hu hd hi h
end

section
variable {P : Program} {ops : Array Oper} {rest : List Oper} {a : Act} {w : World} {Q : Exit → Act → World → Prop} {dst : Option Tmp} {ty : TypeId} {pos : String} {aft : Array Edge} {gd : Option (Nat × Bool)}
theorem at_load (t : TypeId) {x : Operand} (h : wpList P ops Q (⟨dst, .load t x, ty, pos, aft, gd⟩ :: rest) a w) : wpList P ops Q (⟨dst, .load t x, ty, pos, aft, gd⟩ :: rest) a w := h
theorem at_store (t : TypeId) {x y : Operand} (h : wpList P ops Q (⟨dst, .store t x y, ty, pos, aft, gd⟩ :: rest) a w) : wpList P ops Q (⟨dst, .store t x y, ty, pos, aft, gd⟩ :: rest) a w := h
end
theorem below_drewN {B : Nat} {a w : World} (h : Below B a w) (n : Nat) : Below B a (w.drewN n) := ⟨h.os, h.tape, h.output, h.size, h.block⟩

theorem reg_load {P : Program} {o : Oper} {a : Act} {w : World} (ty : TypeId) (t : Tmp) (ho : o.op = .load ty (.tmp t)) {g : Nat} {te : TypeId} {cs : Array Value} (he : a.tmps[t]?.getD undef = .pointer (some ⟨g, 0, none⟩))
    (hb : Blk w g te cs) {d : TypeDesc} (hu : P.underlying ty = some d) (hd : d.isRow = true) (hi : (P.info? ty).map (·.size) = some cs.size) : (execOp a.eval o).run P w = .ok (.value (.agg cs)) w := by
  have := run_loadAt_mid (P := P) w g 0 ty cs.toList d (fun j v hv => by rw [Nat.zero_add, hb.cell]; simpa using hv) hu hd (by simpa using hi)
  simp [execOp, ho, Act.eval, he, this]

theorem Rd.range {w : World} {B size n : Nat} {A : Option Addr} {xs : List Value} (h : Rd w B size A n xs) (hn : 0 < n * size) : ∃ b off, A = some ⟨b, off, none⟩ ∧ b < B ∧ w.rangeAt b off xs := by
  obtain ⟨⟨b, off, spot⟩, rfl, hb, hc⟩ := h.cells hn
  have h0 := hc 0 _ (List.getElem?_eq_getElem (by rw [h.len]; exact hn))
  have hspot : spot = none := by simpa [Addr.add] using World.cell?_spot h0
  subst hspot
  exact ⟨b, off, rfl, hb, fun j v hv => by have := hc j v hv; rw [Addr.add_mid] at this; exact this⟩

theorem grown_below {w0 w w' : World} {B g : Nat} (h : Below B w0 w) (hg : w.grownBy w' (some g)) (hB : B ≤ w.heap.size) (hgB : B ≤ g) : Below B w0 w' :=
  h.grown hg hB (fun k e => by cases e; exact hgB)
end Go.Proofs.YtpellkblaeeopaaGreatDoor
/-
  Struct literals whose fields are whole values.
-/
namespace Go.Proofs.YtpellkblaeeopaaGreatDoor
open Go.RowKit

theorem foldl_splice (off : Nat) (cells : Array Value) (l : List Value) (h : off + l.length ≤ cells.size) :
    (l.zipIdx.foldl (fun cs (x : Value × Nat) => cs.setIfInBounds (off + x.2) x.1) cells) = (splice cells.toList off l).toArray := by
  obtain ⟨h1, h2⟩ := Great.foldl_set off l 0 cells
  apply Array.ext_getElem?
  intro k
  rw [h2 k]
  simp only [List.getElem?_toArray, splice, Nat.add_zero]
  by_cases hk : off ≤ k ∧ k < off + l.length ∧ k < cells.size
  · rw [if_pos hk, List.getElem?_append_right (by simp; omega), List.getElem?_append_left (by simp; omega)]
    simp; congr 1; omega
  · rw [if_neg hk]
    by_cases h3 : k < off
    · rw [List.getElem?_append_left (by simp; omega), List.getElem?_take, if_pos h3]; simp
    · rw [List.getElem?_append_right (by simp; omega), List.getElem?_append_right (by simp; omega), List.getElem?_drop]
      simp only [List.length_take, Array.length_toList]
      rw [Array.getElem?_toList]
      congr 1
      omega
theorem fill_splice {place : Nat → Option (Nat × Nat)} {cells : Array Value} {i off : Nat} {v : Value} {rest : List (Nat × Value)} (hp : place i = some (off, v.cells.size)) (h : off + v.cells.size ≤ cells.size) :
    Instr.fill place cells ((i, v) :: rest) = Instr.fill place (splice cells.toList off v.cells.toList).toArray rest := by
  rw [Instr.fill, hp]
  simp only [ne_eq, not_true_eq_false, decide_false, Bool.false_or, decide_eq_true_eq]
  rw [if_neg (by simp; omega)]
  congr 1
  rw [← foldl_splice off cells v.cells.toList (by simpa using h)]
  rw [← Array.toList_zipIdx, Array.foldl_toList]

def flat (vs : List Value) : List Value := vs.flatMap fun v => v.cells.toList
/-- the fields' places, one behind the other -/
def Rows1 : List (Nat × Nat) → List Value → Nat → Prop
  | _, [], _ => True
  | (o, s) :: ps, v :: vs, off => o = off ∧ v.cells.size = s ∧ Rows1 ps vs (off + s)
  | [], _ :: _, _ => False
theorem fill_rows (places : List (Nat × Nat)) : ∀ (vs : List Value) (i0 off : Nat) (cells : Array Value), Rows1 (places.drop i0) vs off → off + (flat vs).length ≤ cells.size →
    Instr.fill (places.toArray[·]?) cells ((vs.zipIdx i0).map fun x => (x.2, x.1)) = some (cells.toList.take off ++ (flat vs ++ cells.toList.drop (off + (flat vs).length))).toArray
  | [], i0, off, cells, _, _ => by simp [Instr.fill, flat]
  | v :: vs, i0, off, cells, h, hl => by
    have hfl : flat (v :: vs) = v.cells.toList ++ flat vs := by simp [flat]
    have hll : (flat (v :: vs)).length = v.cells.size + (flat vs).length := by rw [hfl]; simp
    rw [hll] at hl ⊢
    cases hd : places.drop i0 with
    | nil => rw [hd] at h; exact h.elim
    | cons p ps =>
      rw [hd] at h
      obtain ⟨o, s⟩ := p
      obtain ⟨rfl, hs, hr⟩ := h
      have hp : places.toArray[i0]? = some (o, v.cells.size) := by
        have : (places.drop i0)[0]? = some (o, s) := by rw [hd]; rfl
        rw [List.getElem?_drop] at this
        simpa [hs] using this
      have hps : places.drop (i0 + 1) = ps := by
        rw [← List.drop_drop, hd]
        rfl
      simp only [List.zipIdx_cons, List.map_cons]
      rw [fill_splice hp (by omega)]
      rw [fill_rows places vs (i0 + 1) (o + s) _ (by rw [hps]; exact hr) (by simp only [List.size_toArray]; rw [length_splice _ _ _ (by simp; omega)]; simp; omega)]
      congr 2
      rw [hfl, ← hs]
      simp only [splice]
      have e1 : (cells.toList.take o ++ (v.cells.toList ++ cells.toList.drop (o + v.cells.toList.length))).take (o + v.cells.size) = cells.toList.take o ++ v.cells.toList := by
        rw [← List.append_assoc, List.take_left' (by simp; omega)]
      have e2 : (cells.toList.take o ++ (v.cells.toList ++ cells.toList.drop (o + v.cells.toList.length))).drop (o + v.cells.size + (flat vs).length) = cells.toList.drop (o + (v.cells.size + (flat vs).length)) := by
        rw [← List.append_assoc, List.drop_append, List.drop_eq_nil_of_le (by simp; omega), List.nil_append, List.drop_drop]
        congr 1
        simp; omega
      rw [e1, e2]
      simp only [List.append_assoc]

section
variable {P : Program}
/-- a slice literal, element by element -/
theorem run_buildSlice_all (w : World) {t e : TypeId} {z : Value} {size bytes : Nat} (E : Elem P t e z size bytes) (n : Nat) (parts : Array (Nat × Value)) (vs : List Value) (hparts : parts.toList = vs.zipIdx.map fun x => (x.2, x.1)) (hn : vs.length = n) (h0 : 0 < n)
    (hsm : n * size ≤ 16777216) (h1 : ∀ v ∈ vs, v.cells.size = size) : (Instr.buildSlice t n parts).run P w = .ok (.slice (some ⟨w.heap.size, 0, none⟩) n n) (w.alloc (.cells (flat vs).toArray e)) := by
  obtain ⟨i, hi, hz, hs, _⟩ := E.info
  have hp := E.pos
  refine run_buildSlice w t e n parts _ i z E.under hi hz (by rw [hs]; omega) (by rw [hs]; exact Nat.ne_of_gt (Nat.mul_pos h0 hp)) ?_
  rw [hs, hparts]
  exact Great.fill_whole hp vs _ h1 (by simp [hn])
/-- a struct literal whose first fields are given, in order -/
theorem run_build_rows (w : World) {t : TypeId} {fields : Array Field} {z : Array Value} (parts : Array (Nat × Value)) (vs : List Value) (places : List (Nat × Nat)) (hu : P.underlying t = some (.struct fields))
    (hz : (P.info? t).map (·.zero) = some (some (.agg z))) (hp : fields.toList.mapM (fun f => (P.info? f.type).map fun i => (f.offset, i.size)) = some places)
    (hparts : parts.toList = vs.zipIdx.map fun x => (x.2, x.1)) (hr : Rows1 places vs 0) (hl : (flat vs).length ≤ z.size) :
    (Instr.build t parts).run P w = .ok (.agg (flat vs ++ z.toList.drop (flat vs).length).toArray) w := by
  refine run_build w t parts _ ?_
  obtain ⟨i, hi, hz⟩ := Option.map_eq_some_iff.1 hz
  unfold Program.built
  simp only [hi, hu, hz, hp, hparts]
  have := fill_rows places vs 0 0 z (by simpa using hr) (by omega)
  simp only [List.take_zero, List.nil_append, Nat.zero_add] at this
  simpa [Value.cells] using this
end
end Go.Proofs.YtpellkblaeeopaaGreatDoor
/-
  Rows of nodes that the call itself makes; one cell stored into a block that is known whole.
-/
namespace Go.Proofs.YtpellkblaeeopaaGreatDoor
open Go.RowKit

theorem own_ne {w : World} {base size n : Nat} {e t : TypeId} {v : Value} {xs : List Value} {g b : Nat} {cs : Array Value} (h : w.ownsRow base e size v n xs) (hb : Blk w g t cs) (hte : t ≠ e) (hv : v.ownBlock = some b) : b ≠ g := by
  rintro rfl
  rcases h.2 with ⟨rfl, _⟩ | ⟨g', cap, cur, rfl, _, hh, _⟩
  · cases hv
  · cases hv
    unfold Blk at hb
    rw [hb] at hh
    injection hh with hh
    injection hh with _ h2
    exact hte h2
section
variable {P : Program} {o : Oper} {a : Act} {w : World}
/-- x.f = v, a slice -/
theorem reg_storeSlice {ty : TypeId} {x y : Tmp} (ho : o.op = .store ty (.tmp x) (.tmp y)) (hi : (P.info? ty).map (·.size) = some 1) {g off : Nat} {t : TypeId} {cs : Array Value} {A : Option Addr} {n c : Nat} (hb : Blk w g t cs)
    (hx : a.tmps[x]?.getD undef = .pointer (some ⟨g, off, none⟩)) (hy : a.tmps[y]?.getD undef = .slice A n c) (hoff : off < cs.size) : (execOp a.eval o).run P w = .ok .skip (w.setCell ⟨g, off, none⟩ (.slice A n c)) := by
  have hc := hb.cell off
  rw [Array.getElem?_eq_getElem hoff] at hc
  have hf := hb.frozen off
  obtain ⟨i, hinf, hsz⟩ := Option.map_eq_some_iff.1 hi
  have hs : (sizeOf ty).run P w = .ok 1 w := by simp [sizeOf, typeInfo, hinf, hsz]
  simp [execOp, ho, Act.eval, hx, hy, Instr.storeAt, storeCells, Value.cells, hs, go_sem, hc, hf]
theorem wp_skip {a : Act} {w w' : World} {K : Act → World → Prop} {Q : Exit → Act → World → Prop} (h : (execOp a.eval o).run P w = .ok .skip w') (hK : K (a.put o.dst undef) w') : Flow.OpWp P o a w K Q := by
  refine .inl ?_
  unfold Oper.wp
  rw [h]
  exact hK
variable {ops : Array Oper} {rest : List Oper} {Q : Exit → Act → World → Prop}
theorem wpList_runV {w w' : World} {v : Value} (hw : Region.wanted o (yielded ops a.tmps) = true) (h : (execOp a.eval o).run P w = .ok (.value v) w') (hk : wpList P ops Q rest (a.put o.dst v) w') : wpList P ops Q (o :: rest) a w :=
  wpList_step fun K hK => by
    rw [if_pos hw]
    unfold Oper.wp
    rw [h]
    exact hK _ _ hk
theorem wpList_runS {w w' : World} (hw : Region.wanted o (yielded ops a.tmps) = true) (h : (execOp a.eval o).run P w = .ok .skip w') (hk : wpList P ops Q rest (a.put o.dst undef) w') : wpList P ops Q (o :: rest) a w :=
  wpList_step fun K hK => by
    rw [if_pos hw]
    unfold Oper.wp
    rw [h]
    exact hK _ _ hk
end
section
variable {P : Program} {ops : Array Oper} {rest : List Oper} {a : Act} {w : World} {Q : Exit → Act → World → Prop} {dst : Option Tmp} {ty : TypeId} {pos : String} {aft : Array Edge} {gd : Option (Nat × Bool)}
theorem at_buildSlice (t : TypeId) {n : Nat} {parts : Array (Nat × Operand)} (h : wpList P ops Q (⟨dst, .buildSlice t n parts, ty, pos, aft, gd⟩ :: rest) a w) : wpList P ops Q (⟨dst, .buildSlice t n parts, ty, pos, aft, gd⟩ :: rest) a w := h
theorem at_append {args : Array Operand} {tys : Array TypeId} (h : wpList P ops Q (⟨dst, .call ⟨.builtin .append, args, tys⟩, ty, pos, aft, gd⟩ :: rest) a w) : wpList P ops Q (⟨dst, .call ⟨.builtin .append, args, tys⟩, ty, pos, aft, gd⟩ :: rest) a w := h
end
end Go.Proofs.YtpellkblaeeopaaGreatDoor
/-
  A guarded load of a whole value.
-/
namespace Go.Proofs.YtpellkblaeeopaaGreatDoor
open Go.RowKit
section
variable {P : Program} {ops : Array Oper} {rest : List Oper} {o : Oper} {a : Act} {Q : Exit → Act → World → Prop}
theorem wpList_loadAllW (w : World) (hw : Region.wanted o (yielded ops a.tmps) = true) (ty : TypeId) (x : Operand) (ho : o.op = .load ty x) (g : Nat) (te : TypeId) (cells : Array Value) (hb : Blk w g te cells) (d : TypeDesc)
    (hx : a.eval x = .pointer (some ⟨g, 0, none⟩)) (hu : P.underlying ty = some d) (hd : (match d with | .struct _ | .array _ _ => true | _ => false) = true) (hi : (P.info? ty).map (·.size) = some cells.size)
    (h : wpList P ops Q rest (a.put o.dst (.agg cells)) w) : wpList P ops Q (o :: rest) a w :=
  wpList_step fun K hK => by
    rw [if_pos hw]
    exact wp_load_row ty x ho g hx te cells (0, 0) d hb hu hd hi (hK _ _ h)
/-- a struct literal -/
theorem wpList_buildV (w : World) (hw : Region.wanted o (yielded ops a.tmps) = true) {ty : TypeId} {parts : Array (Nat × Operand)} {X : Value} (vs : Array (Nat × Value)) (ho : o.op = .build ty parts) (he : (parts.map fun (i, x) => (i, a.eval x)) = vs)
    (hr : (Instr.build ty vs).run P w = .ok X w) (h : wpList P ops Q rest (a.put o.dst X) w) : wpList P ops Q (o :: rest) a w :=
  wpList_step fun K hK => by
    rw [if_pos hw]
    subst he
    unfold Oper.wp
    simp only [execOp, ho, Sem.run_bind, hr, Result.andThen_ok]
    exact hK _ _ h
end
section
variable {P : Program} {ops : Array Oper} {rest : List Oper} {a : Act} {w : World} {Q : Exit → Act → World → Prop} {dst : Option Tmp} {ty : TypeId} {pos : String} {aft : Array Edge} {gd : Option (Nat × Bool)}
theorem at_build (t : TypeId) {parts : Array (Nat × Operand)} (h : wpList P ops Q (⟨dst, .build t parts, ty, pos, aft, gd⟩ :: rest) a w) : wpList P ops Q (⟨dst, .build t parts, ty, pos, aft, gd⟩ :: rest) a w := h
end
end Go.Proofs.YtpellkblaeeopaaGreatDoor
/-
  The library's sort at uint64: the row, what is handed back, Less; laws for one operation.
-/
namespace Go.Proofs.YtpellkblaeeopaaGreatDoor
open Go.RowKit

def ltN (x y : Nat) : Bool := decide (x < y)
def ucells (l : List Nat) : List Value := l.map fun x : Nat => Value.int .u64 ((x : Nat) : Int)
/-- block g holds d, and R behind it -/
abbrev NR (w : World) (g : Nat) (d : Array Nat) (R : List Value) : Prop := Blk w g 22 (ucells d.toList ++ R).toArray
def OnlyG (g : Nat) : Nat → Prop := fun b => b = g
theorem s_grown (w : World) (g k' : Nat) (v : Value) : w.grownBy (w.setCell ⟨g, k', none⟩ v) (some g) := ⟨rfl, rfl, rfl, by simp, fun k _ hk => heap_setCell_other w ⟨g, k', none⟩ k v (fun e => hk (by simp [e]))⟩
end Go.Proofs.YtpellkblaeeopaaGreatDoor
/-
  Walk: slices.insertionSortOrdered at uint64.
-/
namespace Go.Proofs.YtpellkblaeeopaaGreatDoor
open Go.RowKit

end Go.Proofs.YtpellkblaeeopaaGreatDoor
