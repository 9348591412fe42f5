/-
  How nodes and addresses among the arguments are opened.
-/
import Derived.Test.YtebdehhamjlbpaaFrame
import Derived.Test.YtebdehhamjlbpaaAdrsA
namespace Go.Proofs.Ytebdehhamjlbpaa.Frame
open Go.ChangeShapes Go.WideShapes Go.ChangeAt Go.RowKit

section
variable {H : Type} {enc : TypeId × Value → H} {P : Program} {W : World}
theorem okWide_arr {t e : TypeId} {n : Nat} {r : Reach} {b0 : Nat} {v : Value} (ht : P.underlying t = some (.array n e)) (h : Value.okWide P W r b0 t v) : ∃ cs, v = .agg cs ∧ cs.size = P.cellsOf t := by
  simp only [Value.okWide, ht] at h
  obtain ⟨cs, h1, h2, _⟩ := h
  exact ⟨cs, h1, h2⟩

theorem open_node {t e : TypeId} {n : Nat} {r : Reach} {b0 : Nat} {v : Value} {d : DataW H} {p : List MemPlace} (ht : P.underlying t = some (.array n e)) (he : P.underlying e = some (.int .u8)) (hC : P.cellsOf e = 1) (hN : P.cellsOf t = n)
    (hval : Value.okWide P W r b0 t v) (h : DataW.Trod enc P W 0 (fun _ => true) true t v d p) : ∃ l : List UInt8, v = .agg (bcells l).toArray ∧ l.length = n := by
  obtain ⟨cs, rfl, hsz⟩ := okWide_arr ht hval
  obtain ⟨fuel, hf⟩ := h
  obtain ⟨xs, m, _, _, _, hlen, hg⟩ := DataW.trod_array ht hf
  have hel : ∀ i (hi : i < cs.size), ∃ c : UInt8, cs[i] = .int .u8 (c.toNat : Int) := by
    intro i hi
    have hin : i < n := by rw [hsz, hN] at hi; exact hi
    have h1 := hg i hin
    rw [hC, Nat.mul_one] at h1
    have hx : xs[i]? = some (xs[i]'(by omega)) := List.getElem?_eq_getElem (by omega)
    rw [hx] at h1
    obtain ⟨n', h2, _, hw⟩ := DataW.trod_int he h1
    have h3 : ((Value.agg cs).cells.toList.drop i).take 1 = [cs[i]] := by
      simp only [Value.cells]
      rw [List.drop_eq_getElem_cons (by simpa using hi)]
      simp
    rw [h3] at h2
    simp only [List.cons.injEq, and_true] at h2
    simp [Lit.wf, IntKind.min, IntKind.max, IntKind.bits, IntKind.signed] at hw
    refine ⟨UInt8.ofNat n'.toNat, ?_⟩
    rw [h2, UInt8.toNat_ofNat']
    congr 1
    omega
  refine ⟨cs.toList.map fun v => match v with | .int _ z => UInt8.ofNat z.toNat | _ => 0, ?_, by simp [hsz, hN]⟩
  congr 1
  apply Array.ext
  · simp [bcells]
  · intro i h1 h2
    obtain ⟨c, hc⟩ := hel i h1
    simp only [bcells, List.map_map, List.getElem_toArray, List.getElem_map, Function.comp, Array.getElem_toList]
    rw [hc]
    simp

theorem field_int {t : TypeId} {fs : Array Field} {cs : Array Value} {xs : List (DataW H × List MemPlace)} {n : Nat} {k : IntKind} (hg : ∀ (i : Nat) (f : Field), fs[i]? = some f → DataW.trod enc P W 0 (fun _ => true) true n f.type (((Value.agg cs).cells.toList.drop f.offset).take (P.cellsOf f.type)) = xs[i]?)
    (hlen : xs.length = fs.size) (i : Nat) (f : Field) (hf : fs[i]? = some f) (hft : f.type = t) (hk : P.underlying t = some (.int k)) (hC : P.cellsOf t = 1) : ∃ z : Int, cs[f.offset]? = some (.int k z) ∧ (Lit.int k z).wf = true := by
  have hi : i < fs.size := (Array.getElem?_eq_some_iff.1 hf).1
  have h1 := hg i f hf
  rw [hft, hC, List.getElem?_eq_getElem (by omega)] at h1
  obtain ⟨n', h2, _, hw⟩ := DataW.trod_int hk h1
  refine ⟨n', ?_, hw⟩
  have h3 : (((Value.agg cs).cells.toList.drop f.offset).take 1)[0]? = some (.int k n') := by rw [h2]; rfl
  simpa [Value.cells] using h3
end

theorem open_adrs {H : Type} {enc : TypeId × Value → H} {W : World} {r : Reach} {b0 : Nat} {v : Value} {d : DataW H} {p : List MemPlace}
    (hval : Value.okWide Try.prog W r b0 25 v) (h : DataW.Trod enc Try.prog W 0 (fun _ => true) true 25 v d p) : ∃ x : Ad, v = .agg x.cells ∧ x.ok := by
  have hs := Try.underlying25
  obtain ⟨cs, rfl, hsz⟩ := okWide_struct hs hval
  obtain ⟨fuel, hf⟩ := h
  obtain ⟨xs, n, _, _, _, hlen, hg⟩ := DataW.trod_struct hs hf
  have hsz7 : cs.size = 7 := by rw [hsz]; kernel_rfl
  have c22 : Try.prog.cellsOf 22 = 1 := by kernel_rfl
  have c23 : Try.prog.cellsOf 23 = 1 := by kernel_rfl
  obtain ⟨z0, e0, w0⟩ := field_int hg hlen 0 _ rfl rfl Try.underlying22 c22
  obtain ⟨z1, e1, w1⟩ := field_int hg hlen 1 _ rfl rfl Try.underlying23 c23
  obtain ⟨z2, e2, w2⟩ := field_int hg hlen 2 _ rfl rfl Try.underlying22 c22
  obtain ⟨z3, e3, w3⟩ := field_int hg hlen 3 _ rfl rfl Try.underlying22 c22
  obtain ⟨z4, e4, w4⟩ := field_int hg hlen 4 _ rfl rfl Try.underlying22 c22
  obtain ⟨z5, e5, w5⟩ := field_int hg hlen 5 _ rfl rfl Try.underlying22 c22
  obtain ⟨z6, e6, w6⟩ := field_int hg hlen 6 _ rfl rfl Try.underlying22 c22
  obtain ⟨x0, h0, rfl⟩ := wf_u32 w0
  obtain ⟨x1, h1, rfl⟩ := wf_u64 w1
  obtain ⟨x2, h2, rfl⟩ := wf_u32 w2
  obtain ⟨x3, h3, rfl⟩ := wf_u32 w3
  obtain ⟨x4, h4, rfl⟩ := wf_u32 w4
  obtain ⟨x5, h5, rfl⟩ := wf_u32 w5
  obtain ⟨x6, h6, rfl⟩ := wf_u32 w6
  refine ⟨⟨x0, x1, x2, x3, x4, x5, x6⟩, ?_, ⟨h0, h1, h2, h3, h4, h5, h6⟩⟩
  congr 1
  apply Array.ext_getElem?
  intro i
  by_cases hi : i < 7
  · rcases (show i = 0 ∨ i = 1 ∨ i = 2 ∨ i = 3 ∨ i = 4 ∨ i = 5 ∨ i = 6 by omega) with rfl | rfl | rfl | rfl | rfl | rfl | rfl
    · exact e0
    · exact e1
    · exact e2
    · exact e3
    · exact e4
    · exact e5
    · exact e6
  · rw [Array.getElem?_eq_none (by omega), Array.getElem?_eq_none (by simp [Ad.cells]; omega)]
end Go.Proofs.Ytebdehhamjlbpaa.Frame
