/-
  How arguments with depth are opened: structs, arrays of bytes, slices of such.
-/
import Derived.Test.YtipdmhppadapkaaGreatDoorFrameN
import Derived.Test.YtipdmhppadapkaaGreatDoorBA
namespace Go.Proofs.YtipdmhppadapkaaGreatDoor.Frame
open Go.ChangeShapes Go.WideShapes Go.ChangeAt Go.RowKit
open Go.ChangeMaps (open_string shut_string)

section
variable {H : Type} {enc : TypeId × Value → H} {P : Program} {W : World}
/-- cells that read as a datum of a type -/
def Raw (enc : TypeId × Value → H) (P : Program) (W : World) (t : TypeId) (cs : List Value) : Prop := ∃ m x, DataW.trod enc P W 0 (fun _ => true) true m t cs = some x

theorem raw_of {t : TypeId} {v : Value} {d : DataW H} {p : List MemPlace} (h : DataW.Trod enc P W 0 (fun _ => true) true t v d p) : Raw enc P W t v.cells.toList := by
  obtain ⟨m, h⟩ := h; exact ⟨m, _, h⟩
theorem raw_int {t : TypeId} {k : IntKind} {cs : List Value} (ht : P.underlying t = some (.int k)) (h : Raw enc P W t cs) : ∃ z, cs = [.int k z] ∧ (Lit.int k z).wf = true := by
  obtain ⟨m, x, h⟩ := h
  obtain ⟨z, h1, _, h2⟩ := DataW.trod_int ht h
  exact ⟨z, h1, h2⟩
theorem raw_len_struct {t : TypeId} {fs : Array Field} {cs : List Value} (ht : P.underlying t = some (.struct fs)) (h : Raw enc P W t cs) : cs.length = P.cellsOf t := by
  obtain ⟨m, x, h⟩ := h
  obtain ⟨_, _, _, _, hl, _⟩ := DataW.trod_struct ht h
  exact hl
theorem raw_field {t : TypeId} {fs : Array Field} {cs : List Value} (ht : P.underlying t = some (.struct fs)) (h : Raw enc P W t cs) (i : Nat) (f : Field) (hf : fs[i]? = some f) :
    Raw enc P W f.type ((cs.drop f.offset).take (P.cellsOf f.type)) := by
  obtain ⟨m, x, h⟩ := h
  obtain ⟨xs, n, _, _, _, hlen, hg⟩ := DataW.trod_struct ht h
  have hi : i < fs.size := (Array.getElem?_eq_some_iff.1 hf).1
  have := hg i f hf
  rw [List.getElem?_eq_getElem (by omega)] at this
  exact ⟨n, _, this⟩
theorem wf_byte {z : Int} (h : (Lit.int .u8 z).wf = true) : ((UInt8.ofNat z.toNat).toNat : Int) = z := by
  simp [Lit.wf, IntKind.min, IntKind.max, IntKind.bits, IntKind.signed] at h
  rw [UInt8.toNat_ofNat']; omega
/-- a slice: its elements, in order -/
theorem raw_slice {t e : TypeId} {cs : List Value} (ht : P.underlying t = some (.slice e)) (h : Raw enc P W t cs) :
    ∃ A n c, ∃ L : List (List Value), cs = [.slice A n c] ∧ n ≤ c ∧ c ≤ 9223372036854775807 ∧ L.length = n ∧ Rd W W.heap.size (P.cellsOf e) A n L.flatten ∧ ∀ l ∈ L, l.length = P.cellsOf e ∧ Raw enc P W e l := by
  obtain ⟨m, x, h⟩ := h
  rcases DataW.trod_slice ht h with ⟨h0, _⟩ | ⟨a, len, cap, elems, rest, n, _, rfl, rfl, hb, hl, hm, hlen, hel, hsp, hns⟩
  · exact ⟨none, 0, 0, [], h0, Nat.le_refl _, by omega, rfl, Rd.nil _ _ _ _, fun l hl => by cases hl⟩
  · have hex : ∀ i, ∃ l : List Value, i < len → l.length = P.cellsOf e ∧ Raw enc P W e l ∧ ∀ j, j < P.cellsOf e → W.cell? (a.add (i * P.cellsOf e + j)) = l[j]? := by
      intro i
      by_cases hi : i < len
      · have h1 := hel i hi
        rw [List.getElem?_eq_getElem (by omega)] at h1
        cases hc : W.cells? 0 (a.add (i * P.cellsOf e)) (P.cellsOf e) with
        | none => rw [hc] at h1; cases h1
        | some l =>
          rw [hc] at h1
          have hs := World.cells?_some hc
          refine ⟨l, fun _ => ⟨hs.2.1, ⟨n, _, h1⟩, fun j hj => ?_⟩⟩
          have := hs.2.2 j hj
          rw [addr_add] at this
          exact this
      · exact ⟨[], fun h => absurd h hi⟩
    have hch := fun i => Classical.choose_spec (hex i)
    refine ⟨some a, len, cap, (List.range len).map fun i => Classical.choose (hex i), rfl, hl, by simp only [maxLen] at hm; omega, by simp, ?_, ?_⟩
    · have hfl : ∀ k, k ≤ len → (((List.range k).map fun i => Classical.choose (hex i)).flatten).length = k * P.cellsOf e ∧
          ∀ q v, (((List.range k).map fun i => Classical.choose (hex i)).flatten)[q]? = some v → W.cell? (a.add q) = some v := by
        intro k
        induction k with
        | zero => intro _; exact ⟨by simp, fun q v hv => by simp at hv⟩
        | succ k ih =>
          intro hk
          obtain ⟨h1, h2⟩ := ih (by omega)
          obtain ⟨g1, _, g3⟩ := hch k (by omega)
          rw [List.range_succ, List.map_append, List.flatten_append]
          simp only [List.map_cons, List.map_nil, List.flatten_cons, List.flatten_nil, List.append_nil]
          refine ⟨by rw [List.length_append, h1, g1, Nat.add_mul, Nat.one_mul], fun q v hv => ?_⟩
          by_cases hq : q < k * P.cellsOf e
          · rw [List.getElem?_append_left (by rw [h1]; exact hq)] at hv
            exact h2 q v hv
          · rw [List.getElem?_append_right (by rw [h1]; omega), h1] at hv
            have hlt := (List.getElem?_eq_some_iff.1 hv).1
            rw [g1] at hlt
            have := g3 (q - k * P.cellsOf e) hlt
            rw [show k * P.cellsOf e + (q - k * P.cellsOf e) = q by omega] at this
            rw [this]; exact hv
      obtain ⟨h1, h2⟩ := hfl len (Nat.le_refl _)
      refine ⟨h1, fun q v hv => ⟨a, rfl, ?_, h2 q v hv⟩⟩
      have := block_lt_of_cell (h2 q v hv)
      rw [addr_block] at this; exact this
    · intro l hl
      simp only [List.mem_map, List.mem_range] at hl
      obtain ⟨i, hi, rfl⟩ := hl
      exact ⟨(hch i hi).1, (hch i hi).2.1⟩
theorem choose_eq {α β : Type} {f : β → α} {Q : β → Prop} (L : List α) (h : ∀ a ∈ L, ∃ b, a = f b ∧ Q b) : ∃ M : List β, L = M.map f ∧ ∀ b ∈ M, Q b := by
  induction L with
  | nil => exact ⟨[], rfl, fun b hb => by cases hb⟩
  | cons a L ih =>
    obtain ⟨b, rfl, hb⟩ := h a (by simp)
    obtain ⟨M, rfl, hM⟩ := ih fun x hx => h x (by simp [hx])
    exact ⟨b :: M, rfl, fun x hx => by rcases List.mem_cons.1 hx with rfl | hx; exact hb; exact hM x hx⟩
/-- a struct's cells are its fields', one behind the other -/
theorem cells_split {cs : List Value} {o s : Nat} : cs.drop o = (cs.drop o).take s ++ cs.drop (o + s) := by rw [← List.drop_drop, List.take_append_drop]
theorem agg_of {t : TypeId} {fs : Array Field} {r : Reach} {b0 : Nat} {v : Value} {d : DataW H} {p : List MemPlace} (ht : P.underlying t = some (.struct fs)) (hval : Value.okWide P W r b0 t v)
    (h : DataW.Trod enc P W 0 (fun _ => true) true t v d p) : ∃ cs : List Value, v = .agg cs.toArray ∧ Raw enc P W t cs := by
  obtain ⟨cs, rfl, _⟩ := okWide_struct ht hval
  exact ⟨cs.toList, rfl, raw_of h⟩
/-- a slice's value -/
theorem slice_of {t e : TypeId} {r : Reach} {b0 : Nat} {v : Value} {d : DataW H} {p : List MemPlace} (ht : P.underlying t = some (.slice e)) (hval : Value.okWide P W r b0 t v)
    (h : DataW.Trod enc P W 0 (fun _ => true) true t v d p) : Raw enc P W t [v] := by
  obtain ⟨A, n, c, rfl⟩ := okWide_slice ht hval
  exact raw_of h
end
end Go.Proofs.YtipdmhppadapkaaGreatDoor.Frame
