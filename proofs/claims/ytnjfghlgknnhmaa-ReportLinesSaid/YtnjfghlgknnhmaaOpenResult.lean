/-
  api.Result as an argument.
-/
import Derived.Test.YtnjfghlgknnhmaaOpen
import Derived.Test.YtnjfghlgknnhmaaLinesL
namespace Go.Proofs.Ytnjfghlgknnhmaa.Frame
open Go.ChangeShapes Go.WideShapes Go.ChangeAt Go.RowKit

theorem chunk1 {cs : List Value} {o : Nat} {v : Value} (h : (cs.drop o).take 1 = [v]) : cs[o]? = some v := by
  have h1 : ((cs.drop o).take 1)[0]? = some v := by rw [h]; rfl
  rw [List.getElem?_take, if_pos (by omega), List.getElem?_drop] at h1
  simpa using h1
theorem wfnat_u32 {a : Int} (h : (Lit.int .u32 a).wf = true) : ∃ n : Nat, n < 4294967296 ∧ a = n := by
  simp [Lit.wf, IntKind.min, IntKind.max, IntKind.bits, IntKind.signed] at h
  exact ⟨a.toNat, by omega, by omega⟩
theorem wfnat_u64 {a : Int} (h : (Lit.int .u64 a).wf = true) : ∃ n : Nat, n < 18446744073709551616 ∧ a = n := by
  simp [Lit.wf, IntKind.min, IntKind.max, IntKind.bits, IntKind.signed] at h
  exact ⟨a.toNat, by omega, by omega⟩
section
variable {H : Type} {enc : TypeId × Value → H} {P : Program} {W : World}
theorem raw_at {t e : TypeId} {fs : Array Field} {k : IntKind} {cs : List Value} (ht : P.underlying t = some (.struct fs)) (h : Raw enc P W t cs) (i o : Nat) (hf : (fs[i]?).map (fun f => (f.type, f.offset)) = some (e, o)) (he : P.underlying e = some (.int k)) (h1 : P.cellsOf e = 1) :
    ∃ z, cs[o]? = some (.int k z) ∧ (Lit.int k z).wf = true := by
  obtain ⟨f, hf1, hf2⟩ := Option.map_eq_some_iff.1 hf
  simp only [Prod.mk.injEq] at hf2
  obtain ⟨rfl, rfl⟩ := hf2
  have := raw_field ht h i f hf1
  rw [h1] at this
  obtain ⟨z, h2, h3⟩ := raw_int he this
  exact ⟨z, chunk1 h2, h3⟩
theorem raw_part {t e : TypeId} {fs : Array Field} {cs : List Value} (ht : P.underlying t = some (.struct fs)) (h : Raw enc P W t cs) (i o : Nat) (hf : (fs[i]?).map (fun f => (f.type, f.offset)) = some (e, o)) :
    Raw enc P W e ((cs.drop o).take (P.cellsOf e)) := by
  obtain ⟨f, hf1, hf2⟩ := Option.map_eq_some_iff.1 hf
  simp only [Prod.mk.injEq] at hf2
  obtain ⟨rfl, rfl⟩ := hf2
  exact raw_field ht h i f hf1
end
section
variable {H : Type} {enc : TypeId × Value → H} {W : World}
theorem ci : Try.prog.cellsOf 3 = 1 := by kernel_rfl
theorem c32 : Try.prog.cellsOf 22 = 1 := by kernel_rfl
theorem c64 : Try.prog.cellsOf 68 = 1 := by kernel_rfl
theorem ce : Try.prog.cellsOf 33 = 1 := by kernel_rfl
theorem list2 {α : Type} {l : List α} {a b : α} (h : l.length = 2) (h0 : l[0]? = some a) (h1 : l[1]? = some b) : l = [a, b] := by
  apply List.ext_getElem?
  intro i
  match i with
  | 0 => simpa using h0
  | 1 => simpa using h1
  | i + 2 => rw [List.getElem?_eq_none (by omega)]; simp
theorem list6 {α : Type} {l : List α} {a b c d e f : α} (h : l.length = 6) (h0 : l[0]? = some a) (h1 : l[1]? = some b) (h2 : l[2]? = some c) (h3 : l[3]? = some d) (h4 : l[4]? = some e) (h5 : l[5]? = some f) : l = [a, b, c, d, e, f] := by
  apply List.ext_getElem?
  intro i
  match i with
  | 0 => simpa using h0
  | 1 => simpa using h1
  | 2 => simpa using h2
  | 3 => simpa using h3
  | 4 => simpa using h4
  | 5 => simpa using h5
  | i + 6 => rw [List.getElem?_eq_none (by omega)]; simp
theorem raw_ctr {cs : List Value} (hl : cs.length = 2) (h : Raw enc Try.prog W 127 cs) : ∃ c, cs = ctrCells c ∧ ctrOk c := by
  have hs := Try.underlying127
  obtain ⟨z, a0, w0⟩ := raw_at hs h 0 0 rfl Try.underlying22 c32
  obtain ⟨y, a1, w1⟩ := raw_at hs h 1 1 rfl Try.underlying33 ce
  obtain ⟨o, ho, rfl⟩ := wfnat_u32 w0
  exact ⟨(o, y), list2 hl a0 a1, ho, inI_of w1⟩
theorem raw_gst {cs : List Value} (hl : cs.length = 6) (h : Raw enc Try.prog W 132 cs) : ∃ c, cs = gstCells c ∧ c.Ok := by
  have hs := Try.underlying132
  obtain ⟨z0, a0, w0⟩ := raw_at hs h 0 0 rfl Try.underlying3 ci
  obtain ⟨z1, a1, w1⟩ := raw_at hs h 1 1 rfl Try.underlying22 c32
  obtain ⟨z2, a2, w2⟩ := raw_at hs h 2 2 rfl Try.underlying68 c64
  obtain ⟨z3, a3, w3⟩ := raw_at hs h 3 3 rfl Try.underlying68 c64
  obtain ⟨z4, a4, w4⟩ := raw_at hs h 4 4 rfl Try.underlying68 c64
  obtain ⟨z5, a5, w5⟩ := raw_at hs h 5 5 rfl Try.underlying22 c32
  obtain ⟨o1, k1, rfl⟩ := wfnat_u32 w1
  obtain ⟨o2, k2, rfl⟩ := wfnat_u64 w2
  obtain ⟨o3, k3, rfl⟩ := wfnat_u64 w3
  obtain ⟨o4, k4, rfl⟩ := wfnat_u64 w4
  obtain ⟨o5, k5, rfl⟩ := wfnat_u32 w5
  exact ⟨⟨z0, o1, o2, o3, o4, o5⟩, list6 hl a0 a1 a2 a3 a4 a5, inI_of w0, k1, k2, k3, k4, k5⟩
theorem raw_rec {cs : List Value} (hl : cs.length = 35) (h : Raw enc Try.prog W 130 cs) : ∃ c, cs = recCells c ∧ c.Ok := by
  have hs := Try.underlying130
  have n32 : Try.prog.cellsOf 29 = 32 := by kernel_rfl
  have c8 : Try.prog.cellsOf 5 = 1 := by kernel_rfl
  obtain ⟨z0, a0, w0⟩ := raw_at hs h 0 0 rfl Try.underlying3 ci
  obtain ⟨z1, a1, w1⟩ := raw_at hs h 1 1 rfl Try.underlying3 ci
  obtain ⟨z2, a2, w2⟩ := raw_at hs h 2 2 rfl Try.underlying33 ce
  have f3 : Raw enc Try.prog W 29 ((cs.drop 3).take (Try.prog.cellsOf 29)) := raw_part hs h 3 3 rfl
  obtain ⟨l, e3, hl3⟩ := raw_bytes Try.underlying29 Try.underlying5 c8 n32 f3
  rw [n32, List.take_of_length_le (by simp [hl])] at e3
  refine ⟨⟨z0, z1, z2, l⟩, ?_, inI_of w0, inI_of w1, inI_of w2, hl3⟩
  show cs = [.int .i64 z0, .int .i64 z1, .int .i64 z2] ++ bcells l
  rw [← e3]
  have e : cs = cs.take 3 ++ cs.drop 3 := (List.take_append_drop 3 cs).symm
  refine e.trans ?_
  have e1 : cs.take 3 = [.int .i64 z0, .int .i64 z1, .int .i64 z2] := by
    apply List.ext_getElem?
    intro i
    rw [List.getElem?_take]
    match i with
    | 0 => simpa using a0
    | 1 => simpa using a1
    | 2 => simpa using a2
    | i + 3 => rw [if_neg (by omega)]; simp
  rw [e1]
theorem raw_rows {α : Type} {t e : TypeId} {n : Nat} (f : α → List Value) (Q : α → Prop) {cs : List Value} (ht : Try.prog.underlying t = some (.slice e)) (hn : Try.prog.cellsOf e = n)
    (hq : ∀ {l : List Value}, l.length = n → Raw enc Try.prog W e l → ∃ c, l = f c ∧ Q c) (h : Raw enc Try.prog W t cs) :
    ∃ A m c, ∃ L : List α, cs = [.slice A m c] ∧ L.length = m ∧ (∀ r ∈ L, Q r) ∧ Rd W W.heap.size n A m (L.map f).flatten := by
  obtain ⟨A, m, c, L, h1, _, _, h4, h5, h6⟩ := raw_slice ht h
  obtain ⟨ns, rfl, hk⟩ := choose_eq (f := f) (Q := Q) L fun a ha => hq (by rw [(h6 a ha).1, hn]) (h6 a ha).2
  rw [hn] at h5
  exact ⟨A, m, c, ns, h1, by simpa using h4, hk, h5⟩
set_option maxRecDepth 100000 in
theorem open_result {r : Reach} {b0 : Nat} {v : Value} {d : DataW H} {p : List MemPlace} (hval : Value.okWide Try.prog W r b0 77 v) (h : DataW.Trod enc Try.prog W 0 (fun _ => true) true 77 v d p) :
    ∃ R : Rsl, ∃ C, v = .agg C ∧ R.Ok C ∧ R.Lies W.heap.size W := by
  have hs := Try.underlying77
  have hm := Try.underlying75
  obtain ⟨cs, rfl, hr⟩ := agg_of hs hval h
  have h75 : Try.prog.cellsOf 77 = 75 := by kernel_rfl
  have h71 : Try.prog.cellsOf 75 = 71 := by kernel_rfl
  have h64 : Try.prog.cellsOf 71 = 64 := by kernel_rfl
  have n32 : Try.prog.cellsOf 29 = 32 := by kernel_rfl
  have c8 : Try.prog.cellsOf 5 = 1 := by kernel_rfl
  have c2 : Try.prog.cellsOf 127 = 2 := by kernel_rfl
  have c35 : Try.prog.cellsOf 130 = 35 := by kernel_rfl
  have c6 : Try.prog.cellsOf 132 = 6 := by kernel_rfl
  have s1 : Try.prog.cellsOf 70 = 1 := by kernel_rfl
  have s2 : Try.prog.cellsOf 72 = 1 := by kernel_rfl
  have s3 : Try.prog.cellsOf 73 = 1 := by kernel_rfl
  have hl : cs.length = 75 := by rw [raw_len_struct hs hr, h75]
  obtain ⟨x, a0, w0⟩ := raw_at hs hr 0 0 rfl Try.underlying33 ce
  obtain ⟨y, a1, w1⟩ := raw_at hs hr 1 1 rfl Try.underlying3 ci
  obtain ⟨z, a2, w2⟩ := raw_at hs hr 2 2 rfl Try.underlying3 ci
  have f3 : Raw enc Try.prog W 70 ((cs.drop 3).take (Try.prog.cellsOf 70)) := raw_part hs hr 3 3 rfl
  have f4 : Raw enc Try.prog W 75 ((cs.drop 4).take (Try.prog.cellsOf 75)) := raw_part hs hr 4 4 rfl
  rw [s1] at f3
  rw [h71, List.take_of_length_le (by simp [hl])] at f4
  obtain ⟨A3, n3, c3, ctr, e3, l3, k3, r3⟩ := raw_rows ctrCells ctrOk Try.underlying70 c2 (fun h1 h2 => raw_ctr h1 h2) f3
  obtain ⟨ver, b0, w4⟩ := raw_at hm f4 0 0 rfl Try.underlying22 c32
  obtain ⟨fr, b4, w5⟩ := raw_at hm f4 4 4 rfl Try.underlying3 ci
  obtain ⟨ver, hver, rfl⟩ := wfnat_u32 w4
  have f5 : Raw enc Try.prog W 71 (((cs.drop 4).drop 5).take (Try.prog.cellsOf 71)) := raw_part hm f4 5 5 rfl
  have f6 : Raw enc Try.prog W 72 (((cs.drop 4).drop 69).take (Try.prog.cellsOf 72)) := raw_part hm f4 6 69 rfl
  have f7 : Raw enc Try.prog W 73 (((cs.drop 4).drop 70).take (Try.prog.cellsOf 73)) := raw_part hm f4 7 70 rfl
  rw [h64] at f5
  rw [s2] at f6
  rw [s3] at f7
  obtain ⟨A6, n6, k6, log, e6, l6, q6, r6⟩ := raw_rows recCells Rec.Ok Try.underlying72 c35 (fun h1 h2 => raw_rec h1 h2) f6
  obtain ⟨A7, n7, k7, gst, e7, l7, q7, r7⟩ := raw_rows gstCells Gst.Ok Try.underlying73 c6 (fun h1 h2 => raw_gst h1 h2) f7
  have g0 := raw_elem Try.underlying71 f5 0 (by omega)
  have g1 := raw_elem Try.underlying71 f5 1 (by omega)
  rw [n32] at g0 g1
  obtain ⟨d0, i0, j0⟩ := raw_bytes Try.underlying29 Try.underlying5 c8 n32 g0
  obtain ⟨d1, i1, j1⟩ := raw_bytes Try.underlying29 Try.underlying5 c8 n32 g1
  refine ⟨⟨x, y, z, A3, n3, c3, ctr, cs.drop 4, ver, fr, d0 ++ d1, A6, n6, k6, log, A7, n7, k7, gst⟩, cs.toArray, rfl, ⟨by simpa using hl, inI_of w0, inI_of w1, inI_of w2, by simpa using a0, by simpa using a1, by simpa using a2, by simpa using chunk1 e3, ?_, by rw [List.length_drop, hl], b0, b4, ?_, chunk1 e6, chunk1 e7, by rw [List.length_append, j0, j1], hver, inI_of w5, l3, k3, l6, q6, l7, q7⟩, ⟨r3, r6, r7⟩⟩
  · intro j v hv
    rw [List.getElem?_drop] at hv
    simpa using hv
  · intro j v hv
    have hf : ((cs.drop 4).drop 5).take 64 = bcells (d0 ++ d1) := by
      rw [bcells_append, ← i0, ← i1]
      generalize ((cs.drop 4).drop 5).take 64 = l5 at *
      have : l5.length = 64 := by rw [raw_len_array Try.underlying71 f5, h64]
      rw [show 0 * 32 = 0 from rfl, show 1 * 32 = 32 from rfl, List.drop_zero, List.take_of_length_le (l := l5.drop 32) (by rw [List.length_drop]; omega), List.take_append_drop]
    have hj := (List.getElem?_eq_some_iff.1 hv).1
    rw [bcells_length, List.length_append, j0, j1] at hj
    rw [← hf, List.getElem?_take, if_pos hj, List.getElem?_drop] at hv
    exact hv
end
end Go.Proofs.Ytnjfghlgknnhmaa.Frame
