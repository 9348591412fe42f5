/-
  api.Span, api.Board, []api.Chunk as arguments.
-/
import Derived.Test.YtipdmhppadapkaaGreatDoorOpen
import Derived.Test.YtipdmhppadapkaaGreatDoorBM
namespace Go.Proofs.YtipdmhppadapkaaGreatDoor.Frame
open Go.ChangeShapes Go.WideShapes Go.ChangeAt Go.RowKit

theorem wfm_u64 {a : Int} (h : (Lit.int .u64 a).wf = true) : ∃ n : Nat, n < 18446744073709551616 ∧ a = n := by
  simp [Lit.wf, IntKind.min, IntKind.max, IntKind.bits, IntKind.signed] at h
  exact ⟨a.toNat, by omega, by omega⟩
theorem flat_one1 {α β : Type} (f : α → β) (l : List α) : (l.map fun b => [f b]).flatten = l.map f := by
  induction l with
  | nil => rfl
  | cons x l ih => rw [List.map_cons, List.flatten_cons, ih]; rfl
theorem flat_list {α β : Type} (f : α → List β) (l : List α) : (l.map f).flatten = l.flatMap f := by
  induction l with
  | nil => rfl
  | cons x l ih => rw [List.map_cons, List.flatten_cons, ih]; rfl
section
variable {H : Type} {enc : TypeId × Value → H} {W : World}
set_option maxRecDepth 100000 in
theorem raw_span {cs : List Value} (h : Raw enc Tryz.prog W 61 cs) : ∃ s : Sp, cs = s.cells.toList ∧ s.ok := by
  have hs := Tryz.underlying61
  have h2 : Tryz.prog.cellsOf 61 = 2 := by kernel_rfl
  have hl : cs.length = 2 := by rw [raw_len_struct hs h, h2]
  have c1 : Tryz.prog.cellsOf 24 = 1 := by kernel_rfl
  have f0 : Raw enc Tryz.prog W 24 ((cs.drop 0).take (Tryz.prog.cellsOf 24)) := raw_field hs h 0 _ rfl
  have f1 : Raw enc Tryz.prog W 24 ((cs.drop 1).take (Tryz.prog.cellsOf 24)) := raw_field hs h 1 _ rfl
  rw [c1] at f0 f1
  obtain ⟨z, e0, w0⟩ := raw_int Tryz.underlying24 f0
  obtain ⟨o, ho, rfl⟩ := wfm_u64 w0
  obtain ⟨z1, e1, w1⟩ := raw_int Tryz.underlying24 f1
  obtain ⟨o1, ho1, rfl⟩ := wfm_u64 w1
  refine ⟨⟨o, o1⟩, ?_, ⟨ho, ho1⟩⟩
  have e : cs = (cs.drop 0).take 1 ++ (cs.drop 1).take 1 := by
    have e3 : (cs.drop 1).take 1 = cs.drop 1 := List.take_of_length_le (by rw [List.length_drop, hl]; omega)
    rw [e3, List.drop_zero, List.take_append_drop]
  rw [e, e0, e1]; rfl
set_option maxRecDepth 100000 in
theorem open_span {r : Reach} {b0 : Nat} {v : Value} {d : DataW H} {p : List MemPlace} (hval : Value.okWide Tryz.prog W r b0 61 v) (h : DataW.Trod enc Tryz.prog W 0 (fun _ => true) true 61 v d p) :
    ∃ s : Sp, v = .agg s.cells ∧ s.ok := by
  obtain ⟨cs, rfl, hr⟩ := agg_of Tryz.underlying61 hval h
  obtain ⟨s, rfl, ok⟩ := raw_span hr
  exact ⟨s, rfl, ok⟩
theorem raw_bslice {cs : List Value} (h : Raw enc Tryz.prog W 22 cs) : ∃ A n c l, cs = [.slice A n c] ∧ Rd W W.heap.size 1 A n (bcells l) ∧ n ≤ c ∧ c ≤ 9223372036854775807 := by
  have c8 : Tryz.prog.cellsOf 5 = 1 := by kernel_rfl
  obtain ⟨A, n, c, L, h1, h2, h3, h4, h5, h6⟩ := raw_slice Tryz.underlying22 h
  obtain ⟨l, rfl, _⟩ := choose_eq (f := fun b : UInt8 => [Value.int .u8 (b.toNat : Int)]) (Q := fun _ => True) L fun a ha => by
    obtain ⟨z, e, w⟩ := raw_int Tryz.underlying5 (h6 a ha).2
    exact ⟨UInt8.ofNat z.toNat, by rw [e, wf_byte w], trivial⟩
  rw [c8] at h5
  have e : (l.map fun b : UInt8 => [Value.int .u8 (b.toNat : Int)]).flatten = bcells l := flat_one1 _ l
  rw [e] at h5
  exact ⟨A, n, c, l, h1, h5, h2, h3⟩
set_option maxRecDepth 100000 in
theorem raw_chunk {cs : List Value} (h : Raw enc Tryz.prog W 64 cs) : ∃ k : Ck, cs = k.cells ∧ k.ok W W.heap.size := by
  have hs := Tryz.underlying64
  have h2 : Tryz.prog.cellsOf 64 = 2 := by kernel_rfl
  have hl : cs.length = 2 := by rw [raw_len_struct hs h, h2]
  have c1 : Tryz.prog.cellsOf 24 = 1 := by kernel_rfl
  have c2 : Tryz.prog.cellsOf 22 = 1 := by kernel_rfl
  have f0 : Raw enc Tryz.prog W 24 ((cs.drop 0).take (Tryz.prog.cellsOf 24)) := raw_field hs h 0 _ rfl
  have f1 : Raw enc Tryz.prog W 22 ((cs.drop 1).take (Tryz.prog.cellsOf 22)) := raw_field hs h 1 _ rfl
  rw [c1] at f0
  rw [c2] at f1
  obtain ⟨z, e0, w0⟩ := raw_int Tryz.underlying24 f0
  obtain ⟨o, ho, rfl⟩ := wfm_u64 w0
  obtain ⟨A, n, c, l, e1, r1, r2, r3⟩ := raw_bslice f1
  refine ⟨⟨o, A, n, c, l⟩, ?_, ⟨ho, ⟨r2, r3⟩, r1⟩⟩
  have e : cs = (cs.drop 0).take 1 ++ (cs.drop 1).take 1 := by
    have e3 : (cs.drop 1).take 1 = cs.drop 1 := List.take_of_length_le (by rw [List.length_drop, hl]; omega)
    rw [e3, List.drop_zero, List.take_append_drop]
  rw [e, e0, e1]; rfl
set_option maxRecDepth 100000 in
theorem open_chunks {r : Reach} {b0 : Nat} {v : Value} {d : DataW H} {p : List MemPlace} (hval : Value.okWide Tryz.prog W r b0 62 v) (h : DataW.Trod enc Tryz.prog W 0 (fun _ => true) true 62 v d p) :
    ∃ A n c, ∃ J : List Ck, v = .slice A n c ∧ Rd W W.heap.size 2 A n (ccells J) ∧ ∀ k ∈ J, k.ok W W.heap.size := by
  have c2 : Tryz.prog.cellsOf 64 = 2 := by kernel_rfl
  obtain ⟨A, n, c, L, h1, _, _, h4, h5, h6⟩ := raw_slice Tryz.underlying62 (slice_of Tryz.underlying62 hval h)
  obtain ⟨J, rfl, hq⟩ := choose_eq (f := Ck.cells) (Q := fun k => k.ok W W.heap.size) L fun a ha => raw_chunk (h6 a ha).2
  rw [c2, flat_list] at h5
  simp only [List.cons.injEq, and_true] at h1
  exact ⟨A, n, c, J, h1, h5, hq⟩
end
end Go.Proofs.YtipdmhppadapkaaGreatDoor.Frame
