/-
  Whole values stored into, and loaded out of, blocks that are known whole; results that lie in a cell.
-/
import Derived.Test.YtjfmgoickokbjaaKit
import Derived.Deep.MidRow
namespace Go.Proofs.Ytjfmgoickokbjaa
open Go.RowKit

theorem splice_nil {α : Type} (L : List α) (o : Nat) : splice L o [] = L := by simp [splice]
theorem splice_cons {α : Type} (L : List α) (o : Nat) (v : α) (r : List α) (h : o < L.length) : splice (L.set o v) (o + 1) r = splice L o (v :: r) := by
  have e : (L.set o v).take (o + 1) = L.take o ++ [v] := by
    rw [List.take_succ_eq_append_getElem (by simpa using h), List.take_set_of_le (Nat.le_refl _)]; simp
  simp only [splice, List.length_cons, e, show o + 1 + r.length = o + (r.length + 1) by omega]
  rw [List.drop_set_of_lt (by omega)]
  simp
theorem splice_all {α : Type} (L cs : List α) (h : cs.length = L.length) : splice L 0 cs = cs := by simp [splice, h]

theorem Blk.setCells {g : Nat} {t : TypeId} : ∀ (vs : List Value) (o : Nat) (w : World) (cur : Array Value), Blk w g t cur → o + vs.length ≤ cur.size →
    Blk (w.setCells g o vs) g t (splice cur.toList o vs).toArray ∧ w.grownBy (w.setCells g o vs) (some g) ∧ (w.setCells g o vs).heap.size = w.heap.size
  | [], o, w, cur, h, _ => by rw [splice_nil]; exact ⟨h, World.grownBy.refl _ _, rfl⟩
  | v :: r, o, w, cur, h, hl => by
    simp only [List.length_cons] at hl
    obtain ⟨h1, h2, h3⟩ := Blk.setCells r (o + 1) (w.setCell ⟨g, o, none⟩ v) (cur.setIfInBounds o v) (h.set_ o v) (by simp; omega)
    rw [Array.toList_setIfInBounds, splice_cons _ _ _ _ (by simp; omega)] at h1
    have hg : w.grownBy (w.setCell ⟨g, o, none⟩ v) (some g) := ⟨rfl, rfl, rfl, by simp, fun k _ hk => heap_setCell_other w ⟨g, o, none⟩ k v (fun e => hk (by simp [e]))⟩
    exact ⟨h1, hg.trans h2, h3.trans (by simp)⟩

theorem Blk.there {w : World} {g : Nat} {t : TypeId} {cs : Array Value} (h : Blk w g t cs) (o n : Nat) (hn : o + n ≤ cs.size) : w.there g o n := fun j hj => by
  have hc := h.cell (o + j)
  rw [Array.getElem?_eq_getElem (by omega)] at hc
  exact ⟨by rw [hc]; rfl, h.frozen _⟩

section
variable {P : Program} {ops : Array Oper} {rest : List Oper} {o : Oper} {a : Act} {Q : Exit → Act → World → Prop}
/-- a whole value goes into a part of a block that is known whole -/
theorem wpList_storeBlk (w : World) (hgd : o.guard = none) (ty : TypeId) (x y : Operand) (ho : o.op = .store ty x y) (g off : Nat) (te : TypeId) (cur cells : Array Value) (hb : Blk w g te cur)
    (hx : a.eval x = .pointer (some ⟨g, off, none⟩)) (hy : a.eval y = .agg cells) (hfit : off + cells.size ≤ cur.size) (hi : (P.info? ty).map (·.size) = some cells.size) (h1 : ∀ v ∈ cells.toList, v.oneCell' = true)
    (h : ∀ w', Blk w' g te (splice cur.toList off cells.toList).toArray → w.grownBy w' (some g) → w'.heap.size = w.heap.size → wpList P ops Q rest (a.put o.dst undef) w') : wpList P ops Q (o :: rest) a w := by
  refine wpList_store_mid hgd ty x y ho g off cells hx hy (hb.there off cells.size hfit) hi (by rw [Array.all_eq_true]; intro i hi; exact h1 _ (by simp)) ?_
  obtain ⟨h2, h3, h4⟩ := Blk.setCells cells.toList off w cur hb (by simpa using hfit)
  exact h _ h2 h3 h4
/-- the whole block is written -/
theorem wpList_storeAll (w : World) (hgd : o.guard = none) (ty : TypeId) (x y : Operand) (ho : o.op = .store ty x y) (g : Nat) (te : TypeId) (cur cells : Array Value) (hb : Blk w g te cur)
    (hx : a.eval x = .pointer (some ⟨g, 0, none⟩)) (hy : a.eval y = .agg cells) (hfit : cells.size = cur.size) (hi : (P.info? ty).map (·.size) = some cells.size) (h1 : ∀ v ∈ cells.toList, v.oneCell' = true)
    (h : ∀ w', Blk w' g te cells → w.grownBy w' (some g) → w'.heap.size = w.heap.size → wpList P ops Q rest (a.put o.dst undef) w') : wpList P ops Q (o :: rest) a w :=
  wpList_storeBlk w hgd ty x y ho g 0 te cur cells hb hx hy (by omega) hi h1 (fun w' h2 h3 h4 => h w' (by rw [splice_all _ _ (by simpa using hfit)] at h2; exact h2) h3 h4)
/-- a whole value out of a block that is known whole -/
theorem wpList_loadAll (w : World) (hgd : o.guard = none) (ty : TypeId) (x : Operand) (ho : o.op = .load ty x) (g : Nat) (te : TypeId) (cells : Array Value) (hb : Blk w g te cells) (d : TypeDesc)
    (hx : a.eval x = .pointer (some ⟨g, 0, none⟩)) (hu : P.underlying ty = some d) (hd : (match d with | .struct _ | .array _ _ => true | _ => false) = true) (hi : (P.info? ty).map (·.size) = some cells.size)
    (h : wpList P ops Q rest (a.put o.dst (.agg cells)) w) : wpList P ops Q (o :: rest) a w :=
  wpList_load_row hgd ty x ho g hx te cells (0, 0) d hb hu hd hi h
theorem run_arrayAt (w : World) {t e : TypeId} {n : Nat} (ht : P.underlying t = some (.array n e)) (ad : Option Addr) (len c : Nat) (h : n ≤ len) :
    (Instr.arrayAt t (.slice ad len c)).run P w = .ok (.pointer ad) w := by
  have : ¬ len < n := by omega
  simp [Instr.arrayAt, run_underlying ht, this]
end

section
variable {P : Program} {ops : Array Oper} {rest : List Oper} {a : Act} {w : World} {Q : Exit → Act → World → Prop} {dst : Option Tmp} {ty : TypeId} {pos : String} {aft : Array Edge} {gd : Option (Nat × Bool)}
theorem at_load (t : TypeId) {x : Operand} (h : wpList P ops Q (⟨dst, .load t x, ty, pos, aft, gd⟩ :: rest) a w) : wpList P ops Q (⟨dst, .load t x, ty, pos, aft, gd⟩ :: rest) a w := h
theorem at_store (t : TypeId) {x y : Operand} (h : wpList P ops Q (⟨dst, .store t x y, ty, pos, aft, gd⟩ :: rest) a w) : wpList P ops Q (⟨dst, .store t x y, ty, pos, aft, gd⟩ :: rest) a w := h
end
theorem below_drewN {B : Nat} {a w : World} (h : Below B a w) (n : Nat) : Below B a (w.drewN n) := ⟨h.os, h.tape, h.output, h.size, h.block⟩

theorem reg_load {P : Program} {o : Oper} {a : Act} {w : World} (ty : TypeId) (t : Tmp) (ho : o.op = .load ty (.tmp t)) {g : Nat} {te : TypeId} {cs : Array Value} (he : a.tmps[t]?.getD undef = .pointer (some ⟨g, 0, none⟩))
    (hb : Blk w g te cs) {d : TypeDesc} (hu : P.underlying ty = some d) (hd : d.isRow = true) (hi : (P.info? ty).map (·.size) = some cs.size) : (execOp a.eval o).run P w = .ok (.value (.agg cs)) w := by
  have := run_loadAt_mid (P := P) w g 0 ty cs.toList d (fun j v hv => by rw [Nat.zero_add, hb.cell]; simpa using hv) hu hd (by simpa using hi)
  simp [execOp, ho, Act.eval, he, this]

theorem Rd.range {w : World} {B size n : Nat} {A : Option Addr} {xs : List Value} (h : Rd w B size A n xs) (hn : 0 < n * size) : ∃ b off, A = some ⟨b, off, none⟩ ∧ b < B ∧ w.rangeAt b off xs := by
  obtain ⟨⟨b, off, spot⟩, rfl, hb, hc⟩ := h.cells hn
  have h0 := hc 0 _ (List.getElem?_eq_getElem (by rw [h.len]; exact hn))
  have hspot : spot = none := by simpa [Addr.add] using World.cell?_spot h0
  subst hspot
  exact ⟨b, off, rfl, hb, fun j v hv => by have := hc j v hv; rw [Addr.add_mid] at this; exact this⟩

theorem grown_below {w0 w w' : World} {B g : Nat} (h : Below B w0 w) (hg : w.grownBy w' (some g)) (hB : B ≤ w.heap.size) (hgB : B ≤ g) : Below B w0 w' :=
  h.grown hg hB (fun k e => by cases e; exact hgB)
end Go.Proofs.Ytjfmgoickokbjaa
