/-
  Struct literals whose fields are whole values.
-/
import Derived.Test.YtjfmgoickokbjaaStore
import Derived.Great.FillDense
import Derived.Laws.Tables
import Derived.Great.BuildSlice
namespace Go.Proofs.Ytjfmgoickokbjaa
open Go.RowKit

theorem foldl_splice (off : Nat) (cells : Array Value) (l : List Value) (h : off + l.length ≤ cells.size) :
    (l.zipIdx.foldl (fun cs (x : Value × Nat) => cs.setIfInBounds (off + x.2) x.1) cells) = (splice cells.toList off l).toArray := by
  obtain ⟨h1, h2⟩ := Great.foldl_set off l 0 cells
  apply Array.ext_getElem?
  intro k
  rw [h2 k]
  simp only [List.getElem?_toArray, splice, Nat.add_zero]
  by_cases hk : off ≤ k ∧ k < off + l.length ∧ k < cells.size
  · rw [if_pos hk, List.getElem?_append_right (by simp; omega), List.getElem?_append_left (by simp; omega)]
    simp; congr 1; omega
  · rw [if_neg hk]
    by_cases h3 : k < off
    · rw [List.getElem?_append_left (by simp; omega), List.getElem?_take, if_pos h3]; simp
    · rw [List.getElem?_append_right (by simp; omega), List.getElem?_append_right (by simp; omega), List.getElem?_drop]
      simp only [List.length_take, Array.length_toList]
      rw [Array.getElem?_toList]
      congr 1
      omega
theorem fill_splice {place : Nat → Option (Nat × Nat)} {cells : Array Value} {i off : Nat} {v : Value} {rest : List (Nat × Value)} (hp : place i = some (off, v.cells.size)) (h : off + v.cells.size ≤ cells.size) :
    Instr.fill place cells ((i, v) :: rest) = Instr.fill place (splice cells.toList off v.cells.toList).toArray rest := by
  rw [Instr.fill, hp]
  simp only [ne_eq, not_true_eq_false, decide_false, Bool.false_or, decide_eq_true_eq]
  rw [if_neg (by simp; omega)]
  congr 1
  rw [← foldl_splice off cells v.cells.toList (by simpa using h)]
  rw [← Array.toList_zipIdx, Array.foldl_toList]

def flat (vs : List Value) : List Value := vs.flatMap fun v => v.cells.toList
/-- the fields' places, one behind the other -/
def Rows1 : List (Nat × Nat) → List Value → Nat → Prop
  | _, [], _ => True
  | (o, s) :: ps, v :: vs, off => o = off ∧ v.cells.size = s ∧ Rows1 ps vs (off + s)
  | [], _ :: _, _ => False
theorem fill_rows (places : List (Nat × Nat)) : ∀ (vs : List Value) (i0 off : Nat) (cells : Array Value), Rows1 (places.drop i0) vs off → off + (flat vs).length ≤ cells.size →
    Instr.fill (places.toArray[·]?) cells ((vs.zipIdx i0).map fun x => (x.2, x.1)) = some (cells.toList.take off ++ (flat vs ++ cells.toList.drop (off + (flat vs).length))).toArray
  | [], i0, off, cells, _, _ => by simp [Instr.fill, flat]
  | v :: vs, i0, off, cells, h, hl => by
    have hfl : flat (v :: vs) = v.cells.toList ++ flat vs := by simp [flat]
    have hll : (flat (v :: vs)).length = v.cells.size + (flat vs).length := by rw [hfl]; simp
    rw [hll] at hl ⊢
    cases hd : places.drop i0 with
    | nil => rw [hd] at h; exact h.elim
    | cons p ps =>
      rw [hd] at h
      obtain ⟨o, s⟩ := p
      obtain ⟨rfl, hs, hr⟩ := h
      have hp : places.toArray[i0]? = some (o, v.cells.size) := by
        have : (places.drop i0)[0]? = some (o, s) := by rw [hd]; rfl
        rw [List.getElem?_drop] at this
        simpa [hs] using this
      have hps : places.drop (i0 + 1) = ps := by
        rw [← List.drop_drop, hd]
        rfl
      simp only [List.zipIdx_cons, List.map_cons]
      rw [fill_splice hp (by omega)]
      rw [fill_rows places vs (i0 + 1) (o + s) _ (by rw [hps]; exact hr) (by simp only [List.size_toArray]; rw [length_splice _ _ _ (by simp; omega)]; simp; omega)]
      congr 2
      rw [hfl, ← hs]
      simp only [splice]
      have e1 : (cells.toList.take o ++ (v.cells.toList ++ cells.toList.drop (o + v.cells.toList.length))).take (o + v.cells.size) = cells.toList.take o ++ v.cells.toList := by
        rw [← List.append_assoc, List.take_left' (by simp; omega)]
      have e2 : (cells.toList.take o ++ (v.cells.toList ++ cells.toList.drop (o + v.cells.toList.length))).drop (o + v.cells.size + (flat vs).length) = cells.toList.drop (o + (v.cells.size + (flat vs).length)) := by
        rw [← List.append_assoc, List.drop_append, List.drop_eq_nil_of_le (by simp; omega), List.nil_append, List.drop_drop]
        congr 1
        simp; omega
      rw [e1, e2]
      simp only [List.append_assoc]

section
variable {P : Program}
/-- a slice literal, element by element -/
theorem run_buildSlice_all (w : World) {t e : TypeId} {z : Value} {size bytes : Nat} (E : Elem P t e z size bytes) (n : Nat) (parts : Array (Nat × Value)) (vs : List Value) (hparts : parts.toList = vs.zipIdx.map fun x => (x.2, x.1)) (hn : vs.length = n) (h0 : 0 < n)
    (hsm : n * size ≤ 16777216) (h1 : ∀ v ∈ vs, v.cells.size = size) : (Instr.buildSlice t n parts).run P w = .ok (.slice (some ⟨w.heap.size, 0, none⟩) n n) (w.alloc (.cells (flat vs).toArray e)) := by
  obtain ⟨i, hi, hz, hs, _⟩ := E.info
  have hp := E.pos
  refine run_buildSlice w t e n parts _ i z E.under hi hz (by rw [hs]; omega) (by rw [hs]; exact Nat.ne_of_gt (Nat.mul_pos h0 hp)) ?_
  rw [hs, hparts]
  exact Great.fill_whole hp vs _ h1 (by simp [hn])
/-- a struct literal whose first fields are given, in order -/
theorem run_build_rows (w : World) {t : TypeId} {fields : Array Field} {z : Array Value} (parts : Array (Nat × Value)) (vs : List Value) (places : List (Nat × Nat)) (hu : P.underlying t = some (.struct fields))
    (hz : (P.info? t).map (·.zero) = some (some (.agg z))) (hp : fields.toList.mapM (fun f => (P.info? f.type).map fun i => (f.offset, i.size)) = some places)
    (hparts : parts.toList = vs.zipIdx.map fun x => (x.2, x.1)) (hr : Rows1 places vs 0) (hl : (flat vs).length ≤ z.size) :
    (Instr.build t parts).run P w = .ok (.agg (flat vs ++ z.toList.drop (flat vs).length).toArray) w := by
  refine run_build w t parts _ ?_
  obtain ⟨i, hi, hz⟩ := Option.map_eq_some_iff.1 hz
  unfold Program.built
  simp only [hi, hu, hz, hp, hparts]
  have := fill_rows places vs 0 0 z (by simpa using hr) (by omega)
  simp only [List.take_zero, List.nil_append, Nat.zero_add] at this
  simpa [Value.cells] using this
end
end Go.Proofs.Ytjfmgoickokbjaa
