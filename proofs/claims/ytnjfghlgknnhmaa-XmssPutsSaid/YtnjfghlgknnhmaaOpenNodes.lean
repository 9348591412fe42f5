/-
  []api.Node and api.Sig as arguments.
-/
import Derived.Test.YtnjfghlgknnhmaaOpen
import Derived.Test.YtnjfghlgknnhmaaSigE
namespace Go.Proofs.Ytnjfghlgknnhmaa.Frame
open Go.ChangeShapes Go.WideShapes Go.ChangeAt Go.RowKit

theorem wfq_u32 {a : Int} (h : (Lit.int .u32 a).wf = true) : ∃ n : Nat, n < 4294967296 ∧ a = n := by
  simp [Lit.wf, IntKind.min, IntKind.max, IntKind.bits, IntKind.signed] at h
  exact ⟨a.toNat, by omega, by omega⟩
section
variable {H : Type} {enc : TypeId × Value → H} {W : World}
theorem raw_nodes {cs : List Value} (h : Raw enc Try.prog W 30 cs) : ∃ A n c, ∃ l : List (List UInt8), cs = [.slice A n c] ∧ n = l.length ∧ n ≤ c ∧ c ≤ 9223372036854775807 ∧ Rd W W.heap.size 32 A n (ncells l) ∧ ∀ x ∈ l, x.length = 32 := by
  have c32 : Try.prog.cellsOf 29 = 32 := by kernel_rfl
  have c8 : Try.prog.cellsOf 5 = 1 := by kernel_rfl
  obtain ⟨A, n, c, L, h1, h2, h3, h4, h5, h6⟩ := raw_slice Try.underlying30 h
  obtain ⟨ns, rfl, hq⟩ := choose_eq (f := bcells) (Q := fun x => x.length = 32) L fun a ha => raw_bytes Try.underlying29 Try.underlying5 c8 c32 (h6 a ha).2
  rw [c32] at h5
  exact ⟨A, n, c, ns, h1, by rw [← h4]; simp, h2, h3, h5, hq⟩
set_option maxRecDepth 100000 in
theorem open_nodes {r : Reach} {b0 : Nat} {v : Value} {d : DataW H} {p : List MemPlace} (hval : Value.okWide Try.prog W r b0 30 v) (h : DataW.Trod enc Try.prog W 0 (fun _ => true) true 30 v d p) :
    ∃ A n c, ∃ l : List (List UInt8), v = .slice A n c ∧ n = l.length ∧ n ≤ c ∧ Rd W W.heap.size 32 A n (ncells l) ∧ ∀ x ∈ l, x.length = 32 := by
  obtain ⟨A, n, c, l, h1, h2, h3, _, h5, h6⟩ := raw_nodes (slice_of Try.underlying30 hval h)
  simp only [List.cons.injEq, and_true] at h1
  exact ⟨A, n, c, l, h1, h2, h3, h5, h6⟩
set_option maxRecDepth 100000 in
theorem open_sig {r : Reach} {b0 : Nat} {v : Value} {d : DataW H} {p : List MemPlace} (hval : Value.okWide Try.prog W r b0 32 v) (h : DataW.Trod enc Try.prog W 0 (fun _ => true) true 32 v d p) :
    ∃ g : Sg, ∃ A1 A2 d1 d2, v = .agg (sigCells g.i g.r (.slice A1 g.ots.length d1) (.slice A2 g.auth.length d2)).toArray ∧ g.ok ∧ Rd W W.heap.size 32 A1 g.ots.length (ncells g.ots) ∧ Rd W W.heap.size 32 A2 g.auth.length (ncells g.auth) := by
  have hs := Try.underlying32
  obtain ⟨cs, rfl, hr⟩ := agg_of hs hval h
  have h35 : Try.prog.cellsOf 32 = 35 := by kernel_rfl
  have hl : cs.length = 35 := by rw [raw_len_struct hs hr, h35]
  have c1 : Try.prog.cellsOf 22 = 1 := by kernel_rfl
  have c32 : Try.prog.cellsOf 29 = 32 := by kernel_rfl
  have c8 : Try.prog.cellsOf 5 = 1 := by kernel_rfl
  have cN : Try.prog.cellsOf 30 = 1 := by kernel_rfl
  have f0 : Raw enc Try.prog W 22 ((cs.drop 0).take (Try.prog.cellsOf 22)) := raw_field hs hr 0 _ rfl
  have f1 : Raw enc Try.prog W 29 ((cs.drop 1).take (Try.prog.cellsOf 29)) := raw_field hs hr 1 _ rfl
  have f2 : Raw enc Try.prog W 30 ((cs.drop 33).take (Try.prog.cellsOf 30)) := raw_field hs hr 2 _ rfl
  have f3 : Raw enc Try.prog W 30 ((cs.drop 34).take (Try.prog.cellsOf 30)) := raw_field hs hr 3 _ rfl
  rw [c1] at f0
  rw [c32] at f1
  rw [cN] at f2 f3
  obtain ⟨z, e0, w0⟩ := raw_int Try.underlying22 f0
  obtain ⟨o, ho, rfl⟩ := wfq_u32 w0
  obtain ⟨r, e1, hr1⟩ := raw_bytes Try.underlying29 Try.underlying5 c8 c32 f1
  obtain ⟨A1, n1, d1, l1, e2, m1, _, _, R1, k1⟩ := raw_nodes f2
  obtain ⟨A2, n2, d2, l2, e3, m2, _, _, R2, k2⟩ := raw_nodes f3
  subst m1 m2
  refine ⟨⟨o, r, l1, l2⟩, A1, A2, d1, d2, ?_, ⟨ho, hr1, k1, k2⟩, R1, R2⟩
  congr 1
  have e : cs = (cs.drop 0).take 1 ++ ((cs.drop 1).take 32 ++ ((cs.drop 33).take 1 ++ (cs.drop 34).take 1)) := by
    have e4 : (cs.drop 34).take 1 = cs.drop 34 := List.take_of_length_le (by rw [List.length_drop, hl]; omega)
    rw [e4, ← cells_split (cs := cs) (o := 33) (s := 1), ← cells_split (cs := cs) (o := 1) (s := 32), List.drop_zero, List.take_append_drop]
  rw [e, e0, e1, e2, e3]
  rfl
end
end Go.Proofs.Ytnjfghlgknnhmaa.Frame
