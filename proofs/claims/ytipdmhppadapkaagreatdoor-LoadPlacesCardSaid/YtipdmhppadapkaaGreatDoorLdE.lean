/-
  Plain: what load.Check builds: a look, a row of checks, a verdict.
-/
import Derived.Test.YtipdmhppadapkaaGreatDoorLdD
namespace Go.Proofs.YtipdmhppadapkaaGreatDoor
open Go.RowKit Sha

/-- a struct literal whose fields are given in order from the i0-th on -/
theorem run_build_from {P : Program} (w : World) {t : TypeId} {fields : Array Field} {z : Array Value} (parts : Array (Nat × Value)) (vs : List Value) (places : List (Nat × Nat)) (i0 off : Nat) (hu : P.underlying t = some (.struct fields))
    (hz : (P.info? t).map (·.zero) = some (some (.agg z))) (hp : fields.toList.mapM (fun f => (P.info? f.type).map fun i => (f.offset, i.size)) = some places)
    (hparts : parts.toList = (vs.zipIdx i0).map fun x => (x.2, x.1)) (hr : Rows1 (places.drop i0) vs off) (hl : off + (flat vs).length ≤ z.size) :
    (Instr.build t parts).run P w = .ok (.agg (z.toList.take off ++ (flat vs ++ z.toList.drop (off + (flat vs).length))).toArray) w := by
  refine run_build w t parts _ ?_
  obtain ⟨i, hi, hz⟩ := Option.map_eq_some_iff.1 hz
  unfold Program.built
  simp only [hi, hu, hz, hp, hparts]
  have := fill_rows places vs i0 off z hr hl
  simpa [Value.cells] using this
theorem results_cell1 {P : Program} {fn : Func} {p : Tmp} {ty : TypeId} (h : fn.results = #[.cell p ty]) (tmps : Array Value) (w : World) (g : Nat) (t : TypeId) (cs : Array Value) (fr : Nat × Nat) (d : TypeDesc)
    (hp : tmps.getD p undef = .pointer (some ⟨g, 0, none⟩)) (hg : w.heap[g]? = some (.cells cs t fr))
    (hu : P.underlying ty = some d) (hd : (match d with | .struct _ | .array _ _ => true | _ => false) = true) (hi : (P.info? ty).map (·.size) = some cs.size) :
    (results fn tmps).run P w = .ok (.agg cs) w := by
  have hp' : tmps[p]?.getD undef = .pointer (some ⟨g, 0, none⟩) := by simpa using hp
  simp [results, h, hp', asAddr, run_loadVar_row w g t ty cs fr d hg hu hd hi]

def z32 : List UInt8 := List.replicate 32 0
def vdz : Array Value := (vdCells 0 0 z32 none 0 0).toArray
theorem zeroVd (w : World) : (zeroValue 41).run Tryz.prog w = .ok (.agg vdz) w := by kernel_rfl
theorem inf_vd : (Tryz.prog.info? 41).map (·.size) = some 35 := by kernel_rfl
theorem inf_gu : (Tryz.prog.info? 31).map (·.size) = some 79 := by kernel_rfl
theorem vd_one (e : Int) (ver : Nat) (dig : List UInt8) (A : Option Addr) (n c : Nat) : ∀ v ∈ (vdCells e ver dig A n c).toArray.toList, v.oneCell' = true := by
  intro v hv
  simp only [vdCells, List.mem_append, List.mem_cons, List.not_mem_nil, or_false] at hv
  rcases hv with ((rfl | rfl) | hv) | rfl
  · rfl
  · rfl
  · exact bcells_one dig v hv
  · rfl
theorem run_vdE (w : World) (e : Int) : (Instr.build 41 #[(0, .int .i64 e)]).run Tryz.prog w = .ok (.agg (vdCells e 0 z32 none 0 0).toArray) w := by
  have := run_build_from (P := Tryz.prog) w (t := 41) (z := vdz) #[(0, .int .i64 e)] [.int .i64 e] [(0, 1), (1, 1), (2, 32), (34, 1)] 0 0
    Tryz.underlying41 (by kernel_rfl) (by kernel_rfl) rfl (by simp [Rows1, Value.cells]) (by simp [flat, Value.cells, vdz, vdCells, z32, bcells])
  rw [this]
  rfl
/-- the look of no guest -/
def gz : Gu := ⟨[], false, 0, 0, 0, 0, 0, List.replicate 68 0, none, 0, 0, 0, .slice none 0 0, .slice none 0 0, .slice none 0 0⟩
def lkz : Array Value := (lkCells gz zhd (.slice none 0 0) (.slice none 0 0) (.slice none 0 0)).toArray
theorem run_look (w : World) (g : Gu) (hk : g.key.length = 68) : (Instr.build 82 #[(0, .agg g.cells.toArray)]).run Tryz.prog w = .ok (.agg (lkCells g zhd (.slice none 0 0) (.slice none 0 0) (.slice none 0 0)).toArray) w := by
  have hl : (flat [.agg g.cells.toArray]) = g.cells := by simp [flat, Value.cells]
  have hn : (flat [.agg g.cells.toArray]).length = 79 := by rw [hl, g.cells_length hk]
  have := run_build_from (P := Tryz.prog) w (t := 82) (z := lkz) #[(0, .agg g.cells.toArray)] [.agg g.cells.toArray] [(0, 79), (79, 35), (114, 1), (115, 1), (116, 1)] 0 0
    Tryz.underlying82 (by kernel_rfl) (by kernel_rfl) rfl (by simp [Rows1, Value.cells, g.cells_length hk]) (by rw [hn, lkz, lk_size (by simp [gz]) (by simp [zhd])]; omega)
  rw [this, hn, hl]
  have e1 : lkz.toList.drop (0 + 79) = hdCells zhd ++ [.slice none 0 0, .slice none 0 0, .slice none 0 0] := by
    rw [lkz, lkCells, List.toList_toArray, List.append_assoc, List.drop_left' (gz.cells_length (by simp [gz]))]
  rw [e1, List.take_zero, List.nil_append, lkCells, List.append_assoc]
/-- the seven checks -/
def ckF : Nat → FuncId
  | 0 => 28
  | 1 => 30
  | 2 => 32
  | 3 => 35
  | 4 => 36
  | 5 => 38
  | _ => 39
def ckC (v y z : Nat) : Nat → Array Value
  | 0 => #[.pointer (some ⟨v, 0, none⟩), .pointer (some ⟨y, 0, none⟩)]
  | 5 => #[.pointer (some ⟨z, 0, none⟩)]
  | 6 => #[.pointer (some ⟨v, 0, none⟩), .pointer (some ⟨z, 0, none⟩)]
  | _ => #[.pointer (some ⟨v, 0, none⟩)]
def ckV (v y z k : Nat) : Value := .func (.func (ckF k)) #[] (ckC v y z k)
def ckRow (v y z : Nat) : Array Value := #[ckV v y z 0, ckV v y z 1, ckV v y z 2, ckV v y z 3, ckV v y z 4, ckV v y z 5, ckV v y z 6]
theorem run_cks (w : World) (v y z : Nat) : (Instr.buildSlice 143 7 #[(0, ckV v y z 0), (1, ckV v y z 1), (2, ckV v y z 2), (3, ckV v y z 3), (4, ckV v y z 4), (5, ckV v y z 5), (6, ckV v y z 6)]).run Tryz.prog w =
    .ok (.slice (some ⟨w.heap.size, 0, none⟩) 7 7) (w.alloc (.cells (ckRow v y z) 85)) := by kernel_rfl
theorem ck_fn (k : Nat) (h : k < 7) : ∃ fn c, Tryz.prog.funcs[ckF k]? = some fn ∧ fn.body = some c ∧ (fn.name == "runtime.NumGoroutine") = false := by
  match k, h with
  | 0, _ => exact ⟨_, _, Tryz.func28, rfl, by kernel_rfl⟩
  | 1, _ => exact ⟨_, _, Tryz.func30, rfl, by kernel_rfl⟩
  | 2, _ => exact ⟨_, _, Tryz.func32, rfl, by kernel_rfl⟩
  | 3, _ => exact ⟨_, _, Tryz.func35, rfl, by kernel_rfl⟩
  | 4, _ => exact ⟨_, _, Tryz.func36, rfl, by kernel_rfl⟩
  | 5, _ => exact ⟨_, _, Tryz.func38, rfl, by kernel_rfl⟩
  | 6, _ => exact ⟨_, _, Tryz.func39, rfl, by kernel_rfl⟩
end Go.Proofs.YtipdmhppadapkaaGreatDoor
