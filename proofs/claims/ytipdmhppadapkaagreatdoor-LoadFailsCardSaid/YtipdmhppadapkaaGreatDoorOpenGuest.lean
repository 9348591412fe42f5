/-
  api.Guest, api.Counter as arguments.
-/
import Derived.Test.YtipdmhppadapkaaGreatDoorOpen
import Derived.Test.YtipdmhppadapkaaGreatDoorLdA
namespace Go.Proofs.YtipdmhppadapkaaGreatDoor.Frame
open Go.ChangeShapes Go.WideShapes Go.ChangeAt Go.RowKit

theorem wfg_u32 {a : Int} (h : (Lit.int .u32 a).wf = true) : ∃ n : Nat, n < 4294967296 ∧ a = n := by
  simp [Lit.wf, IntKind.min, IntKind.max, IntKind.bits, IntKind.signed] at h
  exact ⟨a.toNat, by omega, by omega⟩
theorem wfg_u64 {a : Int} (h : (Lit.int .u64 a).wf = true) : ∃ n : Nat, n < 18446744073709551616 ∧ a = n := by
  simp [Lit.wf, IntKind.min, IntKind.max, IntKind.bits, IntKind.signed] at h
  exact ⟨a.toNat, by omega, by omega⟩
section
variable {H : Type} {enc : TypeId × Value → H} {W : World}
theorem rawg_field {t e : TypeId} {fs : Array Field} {cs : List Value} (ht : Tryz.prog.underlying t = some (.struct fs)) (h : Raw enc Tryz.prog W t cs) (i o n : Nat) (hf : (fs[i]?).map (fun f => (f.type, f.offset)) = some (e, o)) (hn : Tryz.prog.cellsOf e = n) :
    Raw enc Tryz.prog W e ((cs.drop o).take n) := by
  obtain ⟨f, hf1, hf2⟩ := Option.map_eq_some_iff.1 hf
  simp only [Prod.mk.injEq] at hf2
  obtain ⟨rfl, rfl⟩ := hf2
  rw [← hn]
  exact raw_field ht h i f hf1
set_option maxRecDepth 100000 in
theorem open_ctr {r : Reach} {b0 : Nat} {v : Value} {d : DataW H} {p : List MemPlace} (hval : Value.okWide Tryz.prog W r b0 34 v) (h : DataW.Trod enc Tryz.prog W 0 (fun _ => true) true 34 v d p) :
    ∃ c : Ctr, v = .agg c.cells ∧ c.ok := by
  have hs := Tryz.underlying34
  obtain ⟨cs, rfl, hr⟩ := agg_of hs hval h
  have h2 : Tryz.prog.cellsOf 34 = 2 := by kernel_rfl
  have hl : cs.length = 2 := by rw [raw_len_struct hs hr, h2]
  obtain ⟨z, e0, w0⟩ := raw_int Tryz.underlying23 (rawg_field (e := 23) hs hr 0 0 1 rfl (by kernel_rfl))
  obtain ⟨y, e1, w1⟩ := raw_int Tryz.underlying32 (rawg_field (e := 32) hs hr 1 1 1 rfl (by kernel_rfl))
  obtain ⟨o, ho, rfl⟩ := wfg_u32 w0
  refine ⟨⟨o, y⟩, ?_, ho, w1⟩
  congr 1
  have e : cs = (cs.drop 0).take 1 ++ (cs.drop 1).take 1 := by
    have e3 : (cs.drop 1).take 1 = cs.drop 1 := List.take_of_length_le (by rw [List.length_drop, hl]; omega)
    rw [e3, List.drop_zero, List.take_append_drop]
  rw [e, e0, e1]; rfl
theorem raw_anyslice {t e : TypeId} {cs : List Value} (ht : Tryz.prog.underlying t = some (.slice e)) (h : Raw enc Tryz.prog W t cs) : ∃ v, cs = [v] ∧ v.oneCell' = true := by
  obtain ⟨A, n, c, _, h1, _⟩ := raw_slice ht h
  exact ⟨_, h1, rfl⟩
set_option maxRecDepth 100000 in
set_option maxHeartbeats 1000000 in
theorem open_guest {r : Reach} {b0 : Nat} {v : Value} {d : DataW H} {p : List MemPlace} (hval : Value.okWide Tryz.prog W r b0 31 v) (h : DataW.Trod enc Tryz.prog W 0 (fun _ => true) true 31 v d p) :
    ∃ g : Gu, v = .agg g.cells.toArray ∧ g.ok W W.heap.size := by
  have hs := Tryz.underlying31
  obtain ⟨cs, rfl, hr⟩ := agg_of hs hval h
  have h79 : Tryz.prog.cellsOf 31 = 79 := by kernel_rfl
  have hl : cs.length = 79 := by rw [raw_len_struct hs hr, h79]
  have c68 : Tryz.prog.cellsOf 25 = 68 := by kernel_rfl
  have c8 : Tryz.prog.cellsOf 5 = 1 := by kernel_rfl
  have c4 : Tryz.prog.cellsOf 57 = 4 := by kernel_rfl
  obtain ⟨s, e0, w0⟩ := raw_string Tryz.underlying9 (rawg_field (e := 9) hs hr 0 0 1 rfl (by kernel_rfl))
  obtain ⟨mand, e1⟩ := raw_bool Tryz.underlying4 (rawg_field (e := 4) hs hr 1 1 1 rfl (by kernel_rfl))
  obtain ⟨z2, e2, w2⟩ := raw_int Tryz.underlying23 (rawg_field (e := 23) hs hr 2 2 1 rfl (by kernel_rfl))
  obtain ⟨z3, e3, w3⟩ := raw_int Tryz.underlying23 (rawg_field (e := 23) hs hr 3 3 1 rfl (by kernel_rfl))
  obtain ⟨z4, e4, w4⟩ := raw_int Tryz.underlying23 (rawg_field (e := 23) hs hr 4 4 1 rfl (by kernel_rfl))
  obtain ⟨z5, e5, w5⟩ := raw_int Tryz.underlying24 (rawg_field (e := 24) hs hr 5 5 1 rfl (by kernel_rfl))
  obtain ⟨z6, e6, w6⟩ := raw_int Tryz.underlying24 (rawg_field (e := 24) hs hr 6 6 1 rfl (by kernel_rfl))
  obtain ⟨key, e7, hk⟩ := raw_bytes Tryz.underlying25 Tryz.underlying5 c8 c68 (rawg_field (e := 25) hs hr 7 7 68 rfl c68)
  obtain ⟨A, n, c, L, e8, _, _, lw, rw8, q8⟩ := raw_slice Tryz.underlying26 (rawg_field (e := 26) hs hr 8 75 1 rfl (by kernel_rfl))
  obtain ⟨dv, e9, k9⟩ := raw_anyslice Tryz.underlying27 (rawg_field (e := 27) hs hr 9 76 1 rfl (by kernel_rfl))
  obtain ⟨iq, e10, k10⟩ := raw_anyslice Tryz.underlying28 (rawg_field (e := 28) hs hr 10 77 1 rfl (by kernel_rfl))
  obtain ⟨st, e11, k11⟩ := raw_anyslice Tryz.underlying29 (rawg_field (e := 29) hs hr 11 78 1 rfl (by kernel_rfl))
  obtain ⟨o2, m2, rfl⟩ := wfg_u32 w2
  obtain ⟨o3, m3, rfl⟩ := wfg_u32 w3
  obtain ⟨o4, m4, rfl⟩ := wfg_u32 w4
  obtain ⟨o5, m5, rfl⟩ := wfg_u64 w5
  obtain ⟨o6, m6, rfl⟩ := wfg_u64 w6
  rw [c4] at rw8
  have hw : ∃ z : Nat, z < 18446744073709551616 ∧ (0 < n → ∃ b o, A = some ⟨b, o, none⟩ ∧ b < W.heap.size ∧ W.cell? ⟨b, o + 2, none⟩ = some (.int .u64 (z : Int))) := by
    by_cases hn : 0 < n
    · obtain ⟨b, off, rfl, hb, hrg⟩ := rw8.range (by omega)
      match L, lw with
      | [], h0 => simp at h0; omega
      | l0 :: L', _ =>
        obtain ⟨hl0, hr0⟩ := q8 l0 (by simp)
        rw [c4] at hl0
        obtain ⟨z, f2, v2⟩ := raw_int Tryz.underlying24 (rawg_field (e := 24) Tryz.underlying57 hr0 2 2 1 rfl (by kernel_rfl))
        obtain ⟨o, ho, rfl⟩ := wfg_u64 v2
        refine ⟨o, ho, fun _ => ⟨b, off, rfl, hb, ?_⟩⟩
        refine hrg 2 _ ?_
        rw [List.flatten_cons, List.getElem?_append_left (by omega)]
        have h1 : ((l0.drop 2).take 1)[0]? = some (.int .u64 (o : Int)) := by rw [f2]; rfl
        rw [List.getElem?_take, if_pos (by omega), List.getElem?_drop] at h1
        simpa using h1
    · exact ⟨0, by omega, fun h => absurd h hn⟩
  obtain ⟨wsz, hws, hwin⟩ := hw
  refine ⟨⟨s.data.toList, mand, o2, o3, o4, o5, o6, key, A, n, c, wsz, dv, iq, st⟩, ?_, ⟨by rw [Array.length_toList]; exact w0, m2, m3, hk, hwin, hws, k9, k10, k11⟩⟩
  congr 1
  have e : cs = (cs.drop 0).take 1 ++ ((cs.drop 1).take 1 ++ ((cs.drop 2).take 1 ++ ((cs.drop 3).take 1 ++ ((cs.drop 4).take 1 ++ ((cs.drop 5).take 1 ++ ((cs.drop 6).take 1 ++ ((cs.drop 7).take 68 ++ ((cs.drop 75).take 1 ++ ((cs.drop 76).take 1 ++ ((cs.drop 77).take 1 ++ (cs.drop 78).take 1)))))))))) := by
    have e3 : (cs.drop 78).take 1 = cs.drop 78 := List.take_of_length_le (by rw [List.length_drop, hl]; omega)
    rw [e3, ← cells_split (cs := cs) (o := 77) (s := 1), ← cells_split (cs := cs) (o := 76) (s := 1), ← cells_split (cs := cs) (o := 75) (s := 1), ← cells_split (cs := cs) (o := 7) (s := 68), ← cells_split (cs := cs) (o := 6) (s := 1), ← cells_split (cs := cs) (o := 5) (s := 1), ← cells_split (cs := cs) (o := 4) (s := 1), ← cells_split (cs := cs) (o := 3) (s := 1), ← cells_split (cs := cs) (o := 2) (s := 1), ← cells_split (cs := cs) (o := 1) (s := 1), List.drop_zero, List.take_append_drop]
  rw [e, e0, e1, e2, e3, e4, e5, e6, e7, e8, e9, e10, e11]
  simp [Gu.cells]
end
end Go.Proofs.YtipdmhppadapkaaGreatDoor.Frame
