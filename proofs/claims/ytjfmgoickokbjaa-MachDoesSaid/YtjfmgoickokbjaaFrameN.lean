/-
  How nodes among the arguments are opened.
-/
import Derived.Test.YtjfmgoickokbjaaFrame
namespace Go.Proofs.Ytjfmgoickokbjaa.Frame
open Go.ChangeShapes Go.WideShapes Go.ChangeAt Go.RowKit

section
variable {H : Type} {enc : TypeId × Value → H} {P : Program} {W : World}
theorem okWide_arr {t e : TypeId} {n : Nat} {r : Reach} {b0 : Nat} {v : Value} (ht : P.underlying t = some (.array n e)) (h : Value.okWide P W r b0 t v) : ∃ cs, v = .agg cs ∧ cs.size = P.cellsOf t := by
  simp only [Value.okWide, ht] at h
  obtain ⟨cs, h1, h2, _⟩ := h
  exact ⟨cs, h1, h2⟩

theorem open_node {t e : TypeId} {n : Nat} {r : Reach} {b0 : Nat} {v : Value} {d : DataW H} {p : List MemPlace} (ht : P.underlying t = some (.array n e)) (he : P.underlying e = some (.int .u8)) (hC : P.cellsOf e = 1) (hN : P.cellsOf t = n)
    (hval : Value.okWide P W r b0 t v) (h : DataW.Trod enc P W 0 (fun _ => true) true t v d p) : ∃ l : List UInt8, v = .agg (bcells l).toArray ∧ l.length = n := by
  obtain ⟨cs, rfl, hsz⟩ := okWide_arr ht hval
  obtain ⟨fuel, hf⟩ := h
  obtain ⟨xs, m, _, _, _, hlen, hg⟩ := DataW.trod_array ht hf
  have hel : ∀ i (hi : i < cs.size), ∃ c : UInt8, cs[i] = .int .u8 (c.toNat : Int) := by
    intro i hi
    have hin : i < n := by rw [hsz, hN] at hi; exact hi
    have h1 := hg i hin
    rw [hC, Nat.mul_one] at h1
    have hx : xs[i]? = some (xs[i]'(by omega)) := List.getElem?_eq_getElem (by omega)
    rw [hx] at h1
    obtain ⟨n', h2, _, hw⟩ := DataW.trod_int he h1
    have h3 : ((Value.agg cs).cells.toList.drop i).take 1 = [cs[i]] := by
      simp only [Value.cells]
      rw [List.drop_eq_getElem_cons (by simpa using hi)]
      simp
    rw [h3] at h2
    simp only [List.cons.injEq, and_true] at h2
    simp [Lit.wf, IntKind.min, IntKind.max, IntKind.bits, IntKind.signed] at hw
    refine ⟨UInt8.ofNat n'.toNat, ?_⟩
    rw [h2, UInt8.toNat_ofNat']
    congr 1
    omega
  refine ⟨cs.toList.map fun v => match v with | .int _ z => UInt8.ofNat z.toNat | _ => 0, ?_, by simp [hsz, hN]⟩
  congr 1
  apply Array.ext
  · simp [bcells]
  · intro i h1 h2
    obtain ⟨c, hc⟩ := hel i h1
    simp only [bcells, List.map_map, List.getElem_toArray, List.getElem_map, Function.comp, Array.getElem_toList]
    rw [hc]
    simp

end
end Go.Proofs.Ytjfmgoickokbjaa.Frame
