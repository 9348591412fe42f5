/-
  How nodes and addresses among the arguments are opened.
-/
import Derived.Test.YtapkhafgfbhkkaaDoorFrameN
import Derived.Test.YtapkhafgfbhkkaaDoorAdrsA
namespace Go.Proofs.YtapkhafgfbhkkaaDoor.Frame
open Go.ChangeShapes Go.WideShapes Go.ChangeAt Go.RowKit

section
variable {H : Type} {enc : TypeId × Value → H} {P : Program} {W : World}
theorem field_int {t : TypeId} {fs : Array Field} {cs : Array Value} {xs : List (DataW H × List MemPlace)} {n : Nat} {k : IntKind} (hg : ∀ (i : Nat) (f : Field), fs[i]? = some f → DataW.trod enc P W 0 (fun _ => true) true n f.type (((Value.agg cs).cells.toList.drop f.offset).take (P.cellsOf f.type)) = xs[i]?)
    (hlen : xs.length = fs.size) (i : Nat) (f : Field) (hf : fs[i]? = some f) (hft : f.type = t) (hk : P.underlying t = some (.int k)) (hC : P.cellsOf t = 1) : ∃ z : Int, cs[f.offset]? = some (.int k z) ∧ (Lit.int k z).wf = true := by
  have hi : i < fs.size := (Array.getElem?_eq_some_iff.1 hf).1
  have h1 := hg i f hf
  rw [hft, hC, List.getElem?_eq_getElem (by omega)] at h1
  obtain ⟨n', h2, _, hw⟩ := DataW.trod_int hk h1
  refine ⟨n', ?_, hw⟩
  have h3 : (((Value.agg cs).cells.toList.drop f.offset).take 1)[0]? = some (.int k n') := by rw [h2]; rfl
  simpa [Value.cells] using h3
end

theorem open_adrs {H : Type} {enc : TypeId × Value → H} {W : World} {r : Reach} {b0 : Nat} {v : Value} {d : DataW H} {p : List MemPlace}
    (hval : Value.okWide Tryd.prog W r b0 40 v) (h : DataW.Trod enc Tryd.prog W 0 (fun _ => true) true 40 v d p) : ∃ x : Ad, v = .agg x.cells ∧ x.ok := by
  have hs := Tryd.underlying40
  obtain ⟨cs, rfl, hsz⟩ := okWide_struct hs hval
  obtain ⟨fuel, hf⟩ := h
  obtain ⟨xs, n, _, _, _, hlen, hg⟩ := DataW.trod_struct hs hf
  have hsz7 : cs.size = 7 := by rw [hsz]; kernel_rfl
  have c22 : Tryd.prog.cellsOf 22 = 1 := by kernel_rfl
  have c23 : Tryd.prog.cellsOf 38 = 1 := by kernel_rfl
  obtain ⟨z0, e0, w0⟩ := field_int hg hlen 0 _ rfl rfl Tryd.underlying22 c22
  obtain ⟨z1, e1, w1⟩ := field_int hg hlen 1 _ rfl rfl Tryd.underlying38 c23
  obtain ⟨z2, e2, w2⟩ := field_int hg hlen 2 _ rfl rfl Tryd.underlying22 c22
  obtain ⟨z3, e3, w3⟩ := field_int hg hlen 3 _ rfl rfl Tryd.underlying22 c22
  obtain ⟨z4, e4, w4⟩ := field_int hg hlen 4 _ rfl rfl Tryd.underlying22 c22
  obtain ⟨z5, e5, w5⟩ := field_int hg hlen 5 _ rfl rfl Tryd.underlying22 c22
  obtain ⟨z6, e6, w6⟩ := field_int hg hlen 6 _ rfl rfl Tryd.underlying22 c22
  obtain ⟨x0, h0, rfl⟩ := wf_u32 w0
  obtain ⟨x1, h1, rfl⟩ := wf_u64 w1
  obtain ⟨x2, h2, rfl⟩ := wf_u32 w2
  obtain ⟨x3, h3, rfl⟩ := wf_u32 w3
  obtain ⟨x4, h4, rfl⟩ := wf_u32 w4
  obtain ⟨x5, h5, rfl⟩ := wf_u32 w5
  obtain ⟨x6, h6, rfl⟩ := wf_u32 w6
  refine ⟨⟨x0, x1, x2, x3, x4, x5, x6⟩, ?_, ⟨h0, h1, h2, h3, h4, h5, h6⟩⟩
  congr 1
  apply Array.ext_getElem?
  intro i
  by_cases hi : i < 7
  · rcases (show i = 0 ∨ i = 1 ∨ i = 2 ∨ i = 3 ∨ i = 4 ∨ i = 5 ∨ i = 6 by omega) with rfl | rfl | rfl | rfl | rfl | rfl | rfl
    · exact e0
    · exact e1
    · exact e2
    · exact e3
    · exact e4
    · exact e5
    · exact e6
  · rw [Array.getElem?_eq_none (by omega), Array.getElem?_eq_none (by simp [Ad.cells]; omega)]
end Go.Proofs.YtapkhafgfbhkkaaDoor.Frame
