/-
  An image's header in memory and as bytes; walks: img.written, img.Put.
-/
import Derived.Test.YtnjfghlgknnhmaaImgB
import Derived.Test.YtnjfghlgknnhmaaXmssG
import Derived.Lib.LazyBuf
namespace Go.Proofs.Ytnjfghlgknnhmaa
open Go.RowKit

structure Hd where
  ver : Nat
  size : Nat
  name : List UInt8
  dig : List UInt8
structure Hd.ok (h : Hd) : Prop where
  ver : h.ver < 4294967296
  size : h.size < 4294967296
  name : h.name.length ≤ 9223372036854775807
  dig : h.dig.length = 32
def hdCells (h : Hd) : List Value := .int .u32 (h.ver : Int) :: .int .u32 (h.size : Int) :: .string ⟨h.name.toArray⟩ :: bcells h.dig
theorem hdCells_length (h : Hd) (hd : h.dig.length = 32) : (hdCells h).length = 35 := by simp [hdCells, bcells_length, hd]
theorem hdCells_one (h : Hd) : ∀ v ∈ (hdCells h).toArray.toList, v.oneCell' = true := by
  intro v hv
  simp only [hdCells, List.mem_cons] at hv
  rcases hv with rfl | rfl | rfl | hv
  · rfl
  · rfl
  · rfl
  · exact bcells_one _ v hv
def pad16 (s : List UInt8) : List UInt8 := s ++ List.replicate (16 - s.length) 0
theorem pad16_length (s : List UInt8) (h : s.length ≤ 16) : (pad16 s).length = 16 := by simp [pad16]; omega
def hdBytes (h : Hd) : List UInt8 := putAll [1112100167, h.ver, h.size, 0] 4 false ++ (pad16 h.name ++ h.dig)
theorem hd_dig {w : World} {g : Nat} {t : TypeId} {h : Hd} (hb : Blk w g t (hdCells h).toArray) (hd : h.dig.length = 32) : Rd w w.heap.size 1 (some ⟨g, 3, none⟩) 32 (bcells h.dig) := by
  refine ⟨by rw [bcells_length, hd], fun k v hv => ⟨_, rfl, hb.lt, ?_⟩⟩
  rw [Addr.add_mid, hb.cell, Nat.add_comm 3 k]
  simp only [hdCells, List.getElem?_toArray, List.getElem?_cons_succ]
  exact hv
def z16 : Array Value := (bcells (List.replicate 16 0)).toArray
def zhd : Hd := ⟨0, 0, [], List.replicate 32 0⟩
def zhead : Array Value := (hdCells zhd ++ [Value.slice none 0 0]).toArray
theorem zero16 (w : World) : (zeroValue 147).run Try.prog w = .ok (.agg z16) w := by kernel_rfl
theorem zeroHd (w : World) : (zeroValue 55).run Try.prog w = .ok (.agg (hdCells zhd).toArray) w := by kernel_rfl
theorem zeroHead (w : World) : (zeroValue 106).run Try.prog w = .ok (.agg zhead) w := by kernel_rfl
attribute [go_sem] zero16 zeroHd zeroHead
theorem copy_splice (name : List UInt8) (h : name.length ≤ 16) : splice (bcells (List.replicate 16 0)) 0 (bcells name) = bcells (pad16 name) := by
  have e : List.replicate 16 (0 : UInt8) = List.replicate name.length 0 ++ List.replicate (16 - name.length) 0 := by
    rw [List.replicate_append_replicate]; congr 1; omega
  rw [splice, e, bcells_append, pad16, bcells_append, List.take_zero, List.nil_append, Nat.zero_add, List.drop_left' (by simp [bcells_length])]
theorem run_copyName (w : World) (ty : TypeId) (g : Nat) (name : List UInt8) (h : name.length ≤ 16) (hb : Blk w g 147 z16) :
    ∃ W, (Builtin.copy_ #[27, 9] ty #[.slice (some ⟨g, 0, none⟩) 16 16, .string ⟨name.toArray⟩]).run Try.prog w = .ok (goInt name.length) W ∧ Blk W g 147 (bcells (pad16 name)).toArray ∧ w.grownBy W (some g) := by
  have hs : z16.size = 16 := by simp [z16, bcells_length]
  have hcell : ∀ j, j < name.length → (w.cell? ⟨g, 0 + j, none⟩).isSome = true ∧ w.frozen? ⟨g, 0 + j, none⟩ = false := fun j hj => by
    rw [Nat.zero_add, hb.cell, Array.getElem?_eq_getElem (by omega)]; exact ⟨rfl, hb.frozen j⟩
  refine ⟨_, run_copy_string (P := Try.prog) w 27 9 ty 5 g 0 16 16 ⟨name.toArray⟩ Try.underlying27 (fun _ => by kernel_rfl) (by exact h) (fun j hj => (hcell j hj).1) (fun j hj => (hcell j hj).2), ?_⟩
  obtain ⟨h1, h2, _⟩ := Blk.setCells (bcells name) 0 w z16 hb (by rw [bcells_length, hs]; omega)
  refine ⟨?_, h2⟩
  rw [show z16.toList = bcells (List.replicate 16 0) from rfl, copy_splice name h] at h1
  exact h1
section
variable {P : Program} {o : Oper} {a : Act} {w w' : World}
theorem reg_copy {x y : Tmp} {t t' : TypeId} {v u r : Value} (ho : o.op = .call { callee := .builtin .copy, args := #[.tmp x, .tmp y], argTypes := #[t, t'] }) (hx : a.tmps[x]?.getD undef = v) (hy : a.tmps[y]?.getD undef = u)
    (hr : (Builtin.copy_ #[t, t'] o.type #[v, u]).run P w = .ok r w') : (execOp a.eval o).run P w = .ok (.value r) w' := by
  simp [execOp, ho, Act.eval, hx, hy, resolve, invoke, builtin, hr]
end
theorem run_head (h : Hd) (hd : h.dig.length = 32) (A : Option Addr) (n c : Nat) (w : World) :
    (Instr.build 106 #[(0, .agg (hdCells h).toArray), (1, .slice A n c)]).run Try.prog w = .ok (.agg (hdCells h ++ [Value.slice A n c]).toArray) w := by
  have hl : (flat [.agg (hdCells h).toArray, .slice A n c]) = hdCells h ++ [Value.slice A n c] := by simp [flat, Value.cells]
  have hn : (hdCells h ++ [Value.slice A n c]).length = 36 := by simp [hdCells_length h hd]
  have := run_build_rows (P := Try.prog) w (t := 106) (z := zhead) #[(0, .agg (hdCells h).toArray), (1, .slice A n c)] [.agg (hdCells h).toArray, .slice A n c] [(0, 35), (35, 1)]
    Try.underlying106 (by kernel_rfl) (by kernel_rfl) rfl (by simp [Rows1, Value.cells, hdCells_length h hd]) (by rw [hl, hn]; exact of_decide_eq_true (by kernel_rfl))
  rw [hl, hn] at this
  rw [this]
  have e : zhead.toList.drop 36 = [] := by kernel_rfl
  rw [e, List.append_nil]

theorem run_build4 (w : World) (a b : Nat) : (Instr.buildSlice 145 4 #[(0, .int .u32 1112100167), (1, .int .u32 (a : Int)), (2, .int .u32 (b : Int)), (3, .int .u32 0)]).run Try.prog w = .ok (.slice (some ⟨w.heap.size, 0, none⟩) 4 4) (w.alloc (.cells (([1112100167, a, b, 0].map fun (x : Nat) => Value.int .u32 (x : Int))).toArray 22)) := by
  go_simp
theorem blkI1 (w : World) (o : Obj) (t : TypeId) (cs : Array Value) : Blk ((w.alloc o).alloc (.cells cs t)) (w.heap.size + 1) t cs := by
  have := Blk.new (w.alloc o) t cs
  rwa [World.size_alloc] at this
theorem blkI2 (w : World) (o o2 : Obj) (t : TypeId) (cs : Array Value) : Blk (((w.alloc o).alloc o2).alloc (.cells cs t)) (w.heap.size + 2) t cs := by
  have := Blk.new ((w.alloc o).alloc o2) t cs
  rwa [World.size_alloc, World.size_alloc] at this
theorem own_baseI {w : World} {base base' : Nat} {e : TypeId} {size : Nat} {v : Value} {n : Nat} {xs : List Value} (h : w.ownsRow base e size v n xs) (hb : base' ≤ base) : w.ownsRow base' e size v n xs := by
  refine ⟨h.1, ?_⟩
  rcases h.2 with h2 | ⟨g, cap, cur, rfl, h3, h4⟩
  · exact .inl h2
  · exact .inr ⟨g, cap, cur, rfl, Nat.le_trans hb h3, h4⟩
theorem inf_hd : (Try.prog.info? 55).map (·.size) = some 35 := by kernel_rfl
theorem inf_head : (Try.prog.info? 106).map (·.size) = some 36 := by kernel_rfl
theorem headCells_one (h : Hd) (A : Option Addr) (n c : Nat) : ∀ v ∈ (hdCells h ++ [Value.slice A n c]).toArray.toList, v.oneCell' = true := by
  intro v hv
  simp only [List.mem_append, List.mem_singleton] at hv
  rcases hv with hv | rfl
  · exact hdCells_one h v (by simpa using hv)
  · rfl

set_option maxRecDepth 100000 in
set_option maxHeartbeats 4000000 in
theorem written_any (h : Hd) (ok : h.ok) (h16 : h.name.length ≤ 16) (w : World) :
    Calls Try.prog 58 #[.agg (hdCells h).toArray] w fun e w' => ∃ A c, e = .returned (.agg (hdCells h ++ [Value.slice A 64 c]).toArray) ∧ 64 ≤ c ∧ Rd w' w'.heap.size 1 A 64 (bcells (hdBytes h)) ∧ Below w.heap.size w w' := by
  have hdL := Lib.hid ok.dig
  have h35l := Lib.hid (hdCells_length h ok.dig)
  have h35 : Hid ((hdCells h).toArray.size = 35) := Lib.hid (by rw [List.size_toArray, h35l.out])
  have hz1 := zeroHead
  have hz2 := zero16
  have hbH := ((Blk.new w 55 (hdCells h).toArray).alloc (.cells zhead 106)).alloc (.cells z16 147)
  have hbZ := (blkI1 w (.cells (hdCells h).toArray 55) 106 zhead).alloc (.cells z16 147)
  have hbN := blkI2 w (.cells (hdCells h).toArray 55) (.cells zhead 106) 147 z16
  have B1 : Below w.heap.size w (((w.alloc (.cells (hdCells h).toArray 55)).alloc (.cells zhead 106)).alloc (.cells z16 147)) := (((Below.refl _ _).alloc (Nat.le_refl _) _).alloc (by simp) _).alloc (by simp; omega) _
  go_enter Try.func58, Try.ntmps58
  go_wp2_with fail
  generalize ((w.alloc (.cells (hdCells h).toArray 55)).alloc (.cells zhead 106)).alloc (.cells z16 147) = W1 at *
  have hN0 : w.heap.size + 2 ≤ W1.drew.heap.size := Nat.le_of_lt hbN.lt
  clear hz1 hz2
  refine Flow.wp_region_flow (w.heap.size + 2) [(3, fun b => b = w.heap.size + 2)] [(3, fun W => Blk W (w.heap.size + 2) 147 (z16))] (by kernel_rfl) (by kernel_rfl) hN0 (Flow.nz_cons (by rintro b rfl; exact Nat.le_refl _) Flow.nz_nil) (Flow.facts_cons (hbN.drew) (Flow.kept_blk id) (Flow.fz_cons (Flow.no_follow (by kernel_rfl)) Flow.fz_nil) Flow.facts_nil) ?_
  refine Flow.pass_val (.slice (some ⟨w.heap.size + 2, 0, none⟩) 16 16) (Flow.met_none rfl) (fun a W hH => ?_) ?_
  · have e0 := Flow.see_old 3 hH.sees (by kernel_rfl) (by kernel_rfl) rfl
    go_simp; first | done | rfl
  refine Flow.pass_val (.pointer (some ⟨w.heap.size, 2, none⟩)) (Flow.met_none rfl) (fun a W hH => ?_) ?_
  · have e0 := Flow.see_old 1 hH.sees (by kernel_rfl) (by kernel_rfl) rfl
    go_simp; first | done | rfl
  refine Flow.pass_val (.string ⟨h.name.toArray⟩) (Flow.met_none rfl) (fun a W hH => ?_) ?_
  · have e0 := Flow.see_new 5 1 hH.sees (by kernel_rfl) (by kernel_rfl) rfl rfl
    have cc : World.cell? W ⟨w.heap.size, 2, none⟩ = some (.string ⟨h.name.toArray⟩) := ((hbH.drew.below hH.below (by omega)).cell 2).trans rfl; go_simp
  refine Flow.pass_gen (fun _ W => Blk W (w.heap.size + 2) 147 (bcells (pad16 h.name)).toArray) (Flow.kept_of (fun _ _ _ c h => h.chg c id) (Flow.kz_cons (Flow.no_follow (by kernel_rfl)) Flow.kz_nil)) (Flow.met_none rfl) (fun a W hH => ?_) ?_
  · have e0 := Flow.see_new 4 0 hH.sees (by kernel_rfl) (by kernel_rfl) rfl rfl
    have e1 := Flow.see_new 6 2 hH.sees (by kernel_rfl) (by kernel_rfl) rfl rfl
    have fa0 : (fun W => Blk W (w.heap.size + 2) 147 (z16)) W := hH.fact _ (List.mem_of_getElem? (i := 0) rfl) rfl
    obtain ⟨W2, hrun, h2, hg⟩ := run_copyName W 3 (w.heap.size + 2) h.name h16 fa0
    refine Flow.wp_run (reg_copy rfl e0 e1 hrun) ?_
    exact ⟨_, rfl, Chg.grown hg (by rintro k h; cases h; rfl), h2⟩
  refine Flow.pass_end [none, none, none, none, some 4, some 5, some 6, some 7, none, none, none, none, none, none, none, none, none, none, none, none, none] (by kernel_rfl) ?_
  intro f gg w9 hB hfa hT hfg
  have hbN2 := hT 3 _ (by kernel_rfl) rfl
  have hbH := hbH.drew.below hB (by omega)
  have hbZ := hbZ.drew.below hB (by omega)
  have B2 := B1.drew.trans (hB.mono (by omega))
  simp only [Reg.sel]
  clear hT hfg hfa hB hbN hN0 B1
  have hbN := hbN2
  clear hbN2
  generalize w9 = W2 at *
  go_wp2_with fail
  have hN1 : w.heap.size + 1 ≤ W2.drew.heap.size := Nat.le_of_lt hbZ.lt
  refine Flow.wp_region_flow (w.heap.size + 1) [(13, fun b => b = w.heap.size + 1)] [(13, fun W => Blk W (w.heap.size + 1) 106 (zhead)), (11, fun W => Blk W (w.heap.size + 2) 147 ((bcells (pad16 h.name)).toArray))] (by kernel_rfl) (by kernel_rfl) hN1 (Flow.nz_cons (by rintro b rfl; exact Nat.le_refl _) Flow.nz_nil) (Flow.facts_cons (hbZ.drew) (Flow.kept_blk id) (Flow.fz_cons (Flow.no_follow (by kernel_rfl)) Flow.fz_nil) (Flow.facts_cons (hbN.drew) (Flow.kept_blk id) (Flow.fz_cons (Flow.no_follow (by kernel_rfl)) Flow.fz_nil) Flow.facts_nil)) ?_
  refine Flow.pass_val (.agg (hdCells h).toArray) (Flow.met_none rfl) (fun a W hH => ?_) ?_
  · have e0 := Flow.see_old 1 hH.sees (by kernel_rfl) (by kernel_rfl) rfl
    exact reg_load 55 _ rfl e0 (hbH.drew.below hH.below (by omega)) Try.underlying55 rfl (by rw [h35.out]; exact inf_hd)
  refine Flow.pass_val (.pointer (some ⟨w.heap.size, 0, none⟩)) (Flow.met_none rfl) (fun a W hH => ?_) ?_
  · have e0 := Flow.see_old 1 hH.sees (by kernel_rfl) (by kernel_rfl) rfl
    go_simp; first | done | rfl
  refine Flow.pass_val (.int .u32 (h.ver : Int)) (Flow.met_none rfl) (fun a W hH => ?_) ?_
  · have e0 := Flow.see_new 9 1 hH.sees (by kernel_rfl) (by kernel_rfl) rfl rfl
    have cc : World.cell? W ⟨w.heap.size, 0, none⟩ = some (.int .u32 (h.ver : Int)) := ((hbH.drew.below hH.below (by omega)).cell 0).trans rfl; go_simp
  refine Flow.pass_val (.pointer (some ⟨w.heap.size, 1, none⟩)) (Flow.met_none rfl) (fun a W hH => ?_) ?_
  · have e0 := Flow.see_old 1 hH.sees (by kernel_rfl) (by kernel_rfl) rfl
    go_simp; first | done | rfl
  refine Flow.pass_val (.int .u32 (h.size : Int)) (Flow.met_none rfl) (fun a W hH => ?_) ?_
  · have e0 := Flow.see_new 11 3 hH.sees (by kernel_rfl) (by kernel_rfl) rfl rfl
    have cc : World.cell? W ⟨w.heap.size, 1, none⟩ = some (.int .u32 (h.size : Int)) := ((hbH.drew.below hH.below (by omega)).cell 1).trans rfl; go_simp
  refine Flow.pass_lin [13] (fun v W => ∃ b, v = .slice (some ⟨b, 0, none⟩) 4 4 ∧ Blk W b 22 (([1112100167, h.ver, h.size, 0].map fun (x : Nat) => Value.int .u32 (x : Int))).toArray) (Flow.kept_lin [13] (fun _ _ _ c ⟨b, h1, h2⟩ => ⟨b, h1, h2.ext c.ext⟩) (Flow.lz_cons (fun _ => .inl rfl) Flow.lz_nil)) (Flow.met_none rfl) (fun a W hH => ?_) ?_
  · have e0 := Flow.see_new 10 2 hH.sees (by kernel_rfl) (by kernel_rfl) rfl rfl
    have e1 := Flow.see_new 12 4 hH.sees (by kernel_rfl) (by kernel_rfl) rfl rfl
    refine Flow.wp_run (Flow.reg_buildSlice _ rfl (by simp [Act.eval, e0, e1]) (run_build4 W h.ver h.size)) ?_
    exact ⟨_, rfl, Chg.of_ext ((Ext.refl W).alloc _), W.heap.size, rfl, Blk.new _ _ _⟩
  refine Flow.pass_lin [13] (Flow.bytesC (0 + 4 * 4) ([] ++ putAll [1112100167, h.ver, h.size, 0] 4 false)) (Flow.kept_lin [13] (Flow.kept_bytesC _ _) (Flow.lz_cons (fun _ => .inl rfl) Flow.lz_nil)) (Flow.met_none rfl) (fun a W hH => ?_) ?_
  · obtain ⟨b0, e0, q0⟩ := Flow.see_lin 13 5 hH.sees (by kernel_rfl) (by kernel_rfl) rfl rfl (by kernel_rfl)
    refine Flow.wp_callZ rfl Try.func55 rfl (by kernel_rfl) (by simp [Act.eval, e0]) (putBe32_any none 0 0 [] W (some ⟨b0, 0, none⟩) 4 4 [1112100167, h.ver, h.size, 0] (Rd.nil _ _ _ _) (by omega) (by simpa using q0.rd (size := 1) (n := 4) rfl) (by omega)) ?_
    rintro e w' ⟨A9, c9, rfl, hO, hB⟩
    exact ⟨_, rfl, Chg.of_ext hB, A9, c9, rfl, Flow.own_le hO, Rd.of_own hO⟩
  refine Flow.pass_val (.slice (some ⟨w.heap.size + 2, 0, none⟩) 16 16) (Flow.met_none rfl) (fun a W hH => ?_) ?_
  · have e0 := Flow.see_old 3 hH.sees (by kernel_rfl) (by kernel_rfl) rfl
    go_simp; first | done | rfl
  refine Flow.pass_val (.pointer (some ⟨w.heap.size, 3, none⟩)) (Flow.met_none rfl) (fun a W hH => ?_) ?_
  · have e0 := Flow.see_old 1 hH.sees (by kernel_rfl) (by kernel_rfl) rfl
    go_simp; first | done | rfl
  refine Flow.pass_val (.slice (some ⟨w.heap.size, 3, none⟩) 32 32) (Flow.met_none rfl) (fun a W hH => ?_) ?_
  · have e0 := Flow.see_new 16 8 hH.sees (by kernel_rfl) (by kernel_rfl) rfl rfl
    go_simp; first | done | rfl
  refine Flow.pass_lin [13] (fun v W => ∃ A c b, v = .slice (some ⟨b, 0, none⟩) 3 3 ∧ Blk W b 27 #[.slice A 16 c, .slice (some ⟨w.heap.size + 2, 0, none⟩) 16 16, .slice (some ⟨w.heap.size, 3, none⟩) 32 32] ∧ Rd W W.heap.size 1 A 16 (bcells (putAll [1112100167, h.ver, h.size, 0] 4 false))) (Flow.kept_lin [13] (fun _ _ _ c ⟨A, k, b, h1, h2, h3⟩ => ⟨A, k, b, h1, h2.ext c.ext, h3.ext c.ext⟩) (Flow.lz_cons (fun _ => .inl rfl) Flow.lz_nil)) (Flow.met_none rfl) (fun a W hH => ?_) ?_
  · obtain ⟨A0, c0, e0, q0⟩ := Flow.see_lin 14 6 hH.sees (by kernel_rfl) (by kernel_rfl) rfl rfl (by kernel_rfl)
    have e1 := Flow.see_new 15 7 hH.sees (by kernel_rfl) (by kernel_rfl) rfl rfl
    have e2 := Flow.see_new 17 9 hH.sees (by kernel_rfl) (by kernel_rfl) rfl rfl
    refine Flow.wp_run (Flow.reg_buildSlice _ rfl (by simp [Act.eval, e0, e1, e2]) (run_buildBB W A0 16 c0 (some ⟨w.heap.size + 2, 0, none⟩) 16 16 (some ⟨w.heap.size, 3, none⟩) 32 32)) ?_
    refine ⟨_, rfl, Chg.of_ext ((Ext.refl W).alloc _), A0, c0, W.heap.size, rfl, Blk.new _ _ _, ?_⟩
    have r0 := q0.2.ext ((Ext.refl W).alloc (.cells #[.slice A0 16 c0, .slice (some ⟨w.heap.size + 2, 0, none⟩) 16 16, .slice (some ⟨w.heap.size, 3, none⟩) 32 32] 27))
    rw [List.nil_append] at r0; exact r0
  refine Flow.pass_lin [13] (fun v W => ∃ A c, v = .slice A 64 c ∧ W.ownsRow (w.heap.size + 2) 5 1 (.slice A 64 c) 64 (bcells (hdBytes h))) (Flow.kept_lin [13] (fun _ _ _ c ⟨A, k, h1, h2⟩ => ⟨A, k, h1, own_chg h2 c (fun _ _ => id)⟩) (Flow.lz_cons (fun _ => .inl rfl) Flow.lz_nil)) (Flow.met_none rfl) (fun a W hH => ?_) ?_
  · obtain ⟨A0, c0, b0, e0, q0⟩ := Flow.see_lin 18 10 hH.sees (by kernel_rfl) (by kernel_rfl) rfl rfl (by kernel_rfl)
    have fa1 : (fun W => Blk W (w.heap.size + 2) 147 ((bcells (pad16 h.name)).toArray)) W := hH.fact _ (List.mem_of_getElem? (i := 1) rfl) rfl
    have hw2 : w.heap.size + 2 ≤ W.heap.size := Nat.le_of_lt fa1.lt
    refine Flow.wp_callZ rfl Try.func54 rfl (by kernel_rfl) (by simp [Act.eval, e0]) (cat_any (some ⟨b0, 0, none⟩) 3 3 [⟨A0, 16, c0, putAll [1112100167, h.ver, h.size, 0] 4 false⟩, ⟨(some ⟨w.heap.size + 2, 0, none⟩), 16, 16, pad16 h.name⟩, ⟨(some ⟨w.heap.size, 3, none⟩), 32, 32, h.dig⟩] W (q0.1.rd rfl) (by intro b hb; simp only [List.mem_cons, List.not_mem_nil, or_false] at hb; rcases hb with rfl | rfl | rfl <;> first | exact q0.2 | exact (fa1.rd (size := 1) (n := 16) (by rw [List.size_toArray, bcells_length, pad16_length _ h16])) | exact hd_dig (hbH.drew.below hH.below (by omega)) hdL.out) (by simp [Bs.tot]) (by omega)) ?_
    rintro e w' ⟨A9, c9, rfl, hO, hB⟩
    have hO1 : w'.ownsRow W.heap.size 5 1 (.slice A9 64 c9) 64 (bcells (hdBytes h)) := by simpa [Bs.tot, Bs.all, hdBytes] using hO
    exact ⟨_, rfl, Chg.of_ext hB, A9, c9, rfl, own_baseI hO1 hw2⟩
  refine Flow.pass_lin [13] (fun v W => ∃ A c, v = .agg (hdCells h ++ [Value.slice A 64 c]).toArray ∧ W.ownsRow (w.heap.size + 2) 5 1 (.slice A 64 c) 64 (bcells (hdBytes h))) (Flow.kept_lin [13] (fun _ _ _ c ⟨A, k, h1, h2⟩ => ⟨A, k, h1, own_chg h2 c (fun _ _ => id)⟩) (Flow.lz_cons (fun _ => .inl rfl) Flow.lz_nil)) (Flow.met_none rfl) (fun a W hH => ?_) ?_
  · have e0 := Flow.see_new 8 0 hH.sees (by kernel_rfl) (by kernel_rfl) rfl rfl
    obtain ⟨A1, c1, e1, q1⟩ := Flow.see_lin 19 11 hH.sees (by kernel_rfl) (by kernel_rfl) rfl rfl (by kernel_rfl)
    refine Flow.wp_run (Flow.reg_build _ rfl (by simp [Act.eval, e0, e1]) (run_head h hdL.out A1 64 c1 W)) ?_
    exact ⟨_, rfl, Chg.of_ext (Ext.refl W), A1, c1, rfl, q1⟩
  refine Flow.pass_list (fun _ W => ∃ A c, Blk W (w.heap.size + 1) 106 (hdCells h ++ [Value.slice A 64 c]).toArray ∧ W.ownsRow (w.heap.size + 2) 5 1 (.slice A 64 c) 64 (bcells (hdBytes h))) (Flow.kept_of (fun _ _ _ c ⟨A, k, h1, h2⟩ => ⟨A, k, h1.chg c id, own_chg h2 c (fun _ _ => id)⟩) (Flow.kz_cons (Flow.no_follow (by kernel_rfl)) Flow.kz_nil)) (Flow.met_none rfl) (fun a W hH => ?_) ?_
  · have e0 := Flow.see_old 2 hH.sees (by kernel_rfl) (by kernel_rfl) rfl
    obtain ⟨A1, c1, e1, q1⟩ := Flow.see_lin 20 12 hH.sees (by kernel_rfl) (by kernel_rfl) rfl rfl (by kernel_rfl)
    have fa0 : (fun W => Blk W (w.heap.size + 1) 106 (zhead)) W := hH.fact _ (List.mem_of_getElem? (i := 0) rfl) rfl
    refine wpList_storeAll W rfl 106 _ _ rfl (w.heap.size + 1) 106 _ (hdCells h ++ [Value.slice A1 64 c1]).toArray fa0 (by simpa [Act.eval] using e0) (by simpa [Act.eval] using e1) (by rw [List.size_toArray, List.length_append, h35l.out]; kernel_rfl) (by rw [List.size_toArray, List.length_append, h35l.out]; kernel_rfl) (headCells_one h A1 64 c1) ?_
    intro W2 h2 hg _
    exact Flow.qq_nil ⟨_, rfl, Chg.grown hg (by rintro k h; cases h; rfl), A1, c1, h2, own_chg q1 (Chg.grown (Z := fun b => b = w.heap.size + 1) hg (by rintro k h; cases h; rfl)) (fun k hk e => by have := (q1.lt k hk).1; have e2 : k = w.heap.size + 1 := e; omega)⟩
  refine Flow.pass_end [none, none, none, none, none, none, none, none, some 8, some 9, some 10, some 11, some 12, some 13, some 14, some 15, some 16, some 17, some 18, some 19, some 20] (by kernel_rfl) ?_
  intro f3 gg3 w9 hB hfa hT hfg
  obtain ⟨A, c, hb9, hO9⟩ := hT 13 _ (by kernel_rfl) rfl
  have B9 := B2.drew.trans (hB.mono (by omega))
  clear hT hfg hfa hB
  simp only [Reg.sel]
  go_wp2
  refine bodyPost_ret (results_cell_row rfl _ _ (w.heap.size + 1) _ _ _ _ rfl hb9 Try.underlying106 rfl (by rw [List.size_toArray, List.length_append, h35l.out]; kernel_rfl)) rfl ⟨A, c, rfl, Flow.own_le hO9, Rd.of_own hO9, B9⟩
end Go.Proofs.Ytnjfghlgknnhmaa
