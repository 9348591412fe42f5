/-
  Parts: GdP GdQ GdR.
-/
import Derived.Test.YtpellkblaeeopaaGreatDoorC37
/-
  Walk: desc.Field, bit, from, Of at the words of tables and pages.
-/
namespace Go.Proofs.YtpellkblaeeopaaGreatDoor
open Go.RowKit

def fldsN : List (Nat × Nat) := [(0, 0), (1, 1), (5, 4), (6, 6), (7, 7), (10, 10), (54, 54), (47, 12)]
set_option maxRecDepth 100000 in
set_option maxHeartbeats 2000000 in
theorem field_any (w hi lo : Nat) (hp : (hi, lo) ∈ fldsN) (W : World) :
    Calls Tryz.prog 70 #[.int .u64 (w : Int), .int .i64 (hi : Int), .int .i64 (lo : Int)] W fun e w' => e = .returned (.int .u64 (fieldN w hi lo : Int)) ∧ w' = W := by
  simp only [fldsN, List.mem_cons, Prod.mk.injEq, List.not_mem_nil, or_false] at hp
  rcases hp with ⟨rfl, rfl⟩ | ⟨rfl, rfl⟩ | ⟨rfl, rfl⟩ | ⟨rfl, rfl⟩ | ⟨rfl, rfl⟩ | ⟨rfl, rfl⟩ | ⟨rfl, rfl⟩ | ⟨rfl, rfl⟩
  all_goals
    go_enter Tryz.func70, Tryz.ntmps70
    go_wp2
    go_ret
    refine ⟨congrArg (fun x : Int => Ending.returned (.int .u64 x)) ?_, rfl⟩
    rw [IntKind.wrap_u64]
    unfold fieldN
    omega
set_option maxRecDepth 100000 in
theorem bit_any (w at_ : Nat) (hp : (at_, at_) ∈ fldsN) (W : World) :
    Calls Tryz.prog 67 #[.int .u64 (w : Int), .int .i64 (at_ : Int)] W fun e w' => e = .returned (.bool (fieldN w at_ at_ == 1)) ∧ w' = W := by
  have hf := field_any w at_ at_ hp
  go_enter Tryz.func67, Tryz.ntmps67
  go_wp2_with fail
  refine (hf _).mono ?_
  rintro e w1 ⟨rfl, rfl⟩
  go_wp2
  go_ret
  refine ⟨congrArg (fun x => Ending.returned (.bool x)) ?_, rfl⟩
  rw [Bool.eq_iff_iff]
  simp
  omega
set_option maxRecDepth 100000 in
theorem from_any (w : Nat) (W : World) :
    Calls Tryz.prog 68 #[.int .u64 (w : Int), .int .i64 12] W fun e w' => e = .returned (.int .u64 ((fieldN w 47 12 * 4096 : Nat) : Int)) ∧ w' = W := by
  have hf := field_any w 47 12 (by decide)
  go_enter Tryz.func68, Tryz.ntmps68
  go_wp2_with fail
  refine (hf _).mono ?_
  rintro e w1 ⟨rfl, rfl⟩
  go_wp2
  go_ret
  refine ⟨congrArg (fun x : Int => Ending.returned (.int .u64 x)) ?_, rfl⟩
  have : fieldN w 47 12 < 68719476736 := by unfold fieldN; omega
  rw [IntKind.wrap_u64]
  omega
/-- the library's table of shifts, where it must be known -/
def Tz (W : World) : Prop := W.cell? ⟨0, 30, none⟩ = some (.int .u8 12)
theorem tz_ext {W W' : World} (h : Tz W) (e : Ext W W') : Tz W' := by
  have hl : 0 < W.heap.size := World.block_lt_of_cell? W _ h
  exact (World.cell?_of_block (e.block 0 hl)).trans h
theorem tz_alloc {W : World} (h : Tz W) (o : Obj) : Tz (W.alloc o) := tz_ext h ((Ext.refl W).alloc o)
set_option maxRecDepth 100000 in
theorem tz_4096 (W : World) (hT : Tz W) : Calls Tryz.prog 69 #[.int .u64 4096] W fun e w' => e = .returned (.int .i64 12) ∧ w' = W := by
  have hT' : W.cell? ⟨0, 30, none⟩ = some (.int .u8 12) := hT
  have key : IntKind.u64.wrap (bits BinOp.and IntKind.u64 4096 (IntKind.u64.wrap (-4096)) * 285870213051353865) / 288230376151711744 = 30 := by decide +kernel
  go_enter Tryz.func69, Tryz.ntmps69
  go_wp2_with (simp only [key])
  go_ret
  exact ⟨rfl, rfl⟩
theorem run_dscT (w : World) (pa : Nat) : (Instr.build 108 #[(0, .int .i64 1), (1, .int .u64 (pa : Int))]).run Tryz.prog w = .ok (.agg (Dc.cells ⟨1, pa, 0, 0, false⟩)) w := by kernel_rfl
theorem run_dscL (w : World) (pa : Nat) (b : Bool) : (Instr.build 108 #[(0, .int .i64 2), (1, .int .u64 (pa : Int)), (4, .bool b)]).run Tryz.prog w = .ok (.agg (Dc.cells ⟨2, pa, 0, 0, b⟩)) w := by kernel_rfl
theorem dc_one (d : Dc) : ∀ v ∈ d.cells.toList, v.oneCell' = true := by
  intro v hv
  simp only [Dc.cells, List.mem_cons, List.not_mem_nil, or_false] at hv
  rcases hv with rfl | rfl | rfl | rfl | rfl <;> rfl
def BitT (x at_ : Nat) (b : Bool) : Prop := ∀ W, Calls Tryz.prog 67 #[.int .u64 (x : Int), .int .i64 (at_ : Int)] W fun e w' => e = .returned (.bool b) ∧ w' = W
theorem bitT (x at_ : Nat) (b : Bool) (hp : (at_, at_) ∈ fldsN) (h : (fieldN x at_ at_ == 1) = b) : BitT x at_ b := fun W => h ▸ bit_any x at_ hp W
set_option maxRecDepth 100000 in
set_option maxHeartbeats 2000000 in
theorem of_table (k pa : Nat) (hk : k = 1 ∨ k = 2) (hpa : pa % 4096 = 0) (hl : pa < 1099511627776) (w : World) :
    Calls Tryz.prog 31 #[.int .i64 (k : Int), .int .u64 ((pa + 3 : Nat) : Int)] w fun e w' => e = .returned (.agg (Dc.cells ⟨1, pa, 0, 0, false⟩)) ∧ Below w.heap.size w w' := by
  have hb0 := bitT (pa + 3) 0 true (by decide) (by rw [beq_iff_eq]; unfold fieldN; omega)
  have hb1 := bitT (pa + 3) 1 true (by decide) (by rw [beq_iff_eq]; unfold fieldN; omega)
  have hf := from_any (pa + 3)
  rw [show fieldN (pa + 3) 47 12 * 4096 = pa by unfold fieldN; omega] at hf
  have hsz := dsize_any k (by omega)
  obtain ⟨x, hx⟩ : ∃ x, x = pa + 3 := ⟨_, rfl⟩
  rw [← hx] at hb0 hb1 hf ⊢
  have hL0 : ((lvN k : Int) == 0) = false := by have := lvN_pos k; simp; omega
  have hk3 : ((k : Int) == 3) = false := by simp; omega
  have hk4 : decide ((k : Int) < 3) = true := by simp; omega
  have hz : Blk (w.alloc (.cells #[.int .i64 0, .int .u64 0, .int .i64 0, .int .i64 0, .bool false] 108)) w.heap.size 108 #[.int .i64 0, .int .u64 0, .int .i64 0, .int .i64 0, .bool false] := Blk.new _ _ _
  have B0 := (Below.refl _ w).alloc (Nat.le_refl _) (.cells #[.int .i64 0, .int .u64 0, .int .i64 0, .int .i64 0, .bool false] 108)
  clear hx hk
  go_enter Tryz.func31, Tryz.ntmps31
  go_wp2_with fail
  generalize w.alloc (.cells #[.int .i64 0, .int .u64 0, .int .i64 0, .int .i64 0, .bool false] 108) = W1 at *
  refine (hsz _).mono ?_
  rintro e w1 ⟨rfl, rfl⟩
  go_wp2_with fail
  refine (hb0 _).mono ?_
  rintro e w1 ⟨rfl, rfl⟩
  go_wp2_with fail
  refine (hb1 _).mono ?_
  rintro e w1 ⟨rfl, rfl⟩
  go_wp2_with fail
  refine (hf _).mono ?_
  rintro e w1 ⟨rfl, rfl⟩
  go_wp2_with (first
    | ((with_reducible refine at_build 108 ?_); refine wpList_runV rfl (Flow.reg_build _ rfl rfl (run_dscT _ _)) ?_)
    | ((with_reducible refine at_store 108 ?_); refine wpList_storeAll _ rfl 108 _ _ rfl w.heap.size 108 _ (Dc.cells ⟨1, pa, 0, 0, false⟩) hz rfl rfl rfl infDesc (dc_one _) ?_; intro W2 hb2 hg2 hs2))
  refine bodyPost_ret (results_cellS (cs := Dc.cells ⟨1, pa, 0, 0, false⟩) rfl _ _ w.heap.size _ _ _ rfl hb2 Tryz.underlying108 rfl infDesc) rfl ?_
  exact ⟨rfl, grown_below B0 hg2 B0.size (by omega)⟩
set_option maxRecDepth 100000 in
set_option maxHeartbeats 4000000 in
theorem of_leaf (pa : Nat) (hpa : pa % 4096 = 0) (hl : pa < 1099511627776) (w : World) (hT : Tz w) :
    Calls Tryz.prog 31 #[.int .i64 3, .int .u64 ((leafW 3 pa 3 0 : Nat) : Int)] w fun e w' => e = .returned (.agg (Dc.cells ⟨3, pa, 3, 0, true⟩)) ∧ Below w.heap.size w w' := by
  obtain ⟨x, hx⟩ : ∃ x, x = leafW 3 pa 3 0 := ⟨_, rfl⟩
  rw [← hx]
  unfold leafW at hx
  rw [show lowN 3 3 0 = 2047 by decide] at hx
  have hb0 := bitT x 0 true (by decide) (by rw [beq_iff_eq]; unfold fieldN; omega)
  have hb1 := bitT x 1 true (by decide) (by rw [beq_iff_eq]; unfold fieldN; omega)
  have hb6 := bitT x 6 true (by decide) (by rw [beq_iff_eq]; unfold fieldN; omega)
  have hb7 := bitT x 7 true (by decide) (by rw [beq_iff_eq]; unfold fieldN; omega)
  have hb10 := bitT x 10 true (by decide) (by rw [beq_iff_eq]; unfold fieldN; omega)
  have hb54 := bitT x 54 true (by decide) (by rw [beq_iff_eq]; unfold fieldN; omega)
  have hf := from_any x
  have hf4 := field_any x 5 4 (by decide)
  rw [show fieldN x 47 12 * 4096 = pa by unfold fieldN; omega] at hf
  rw [show fieldN x 5 4 = 3 by unfold fieldN; omega] at hf4
  have hsz := dsize_any 3 (by omega)
  have hl3 : (lvN 3 : Int) = 4096 := rfl
  rw [hl3] at hsz
  have hz : Blk (w.alloc (.cells #[.int .i64 0, .int .u64 0, .int .i64 0, .int .i64 0, .bool false] 108)) w.heap.size 108 #[.int .i64 0, .int .u64 0, .int .i64 0, .int .i64 0, .bool false] := Blk.new _ _ _
  have B0 := (Below.refl _ w).alloc (Nat.le_refl _) (.cells #[.int .i64 0, .int .u64 0, .int .i64 0, .int .i64 0, .bool false] 108)
  have hT1 : Tz (w.alloc (.cells #[.int .i64 0, .int .u64 0, .int .i64 0, .int .i64 0, .bool false] 108)) := tz_alloc hT _
  clear hx hl3
  go_enter Tryz.func31, Tryz.ntmps31
  go_wp2_with fail
  generalize w.alloc (.cells #[.int .i64 0, .int .u64 0, .int .i64 0, .int .i64 0, .bool false] 108) = W1 at *
  refine (hsz _).mono ?_
  rintro e w1 ⟨rfl, rfl⟩
  go_wp2_with fail
  refine (hb0 _).mono ?_
  rintro e w1 ⟨rfl, rfl⟩
  go_wp2_with fail
  refine (hb1 _).mono ?_
  rintro e w1 ⟨rfl, rfl⟩
  go_wp2_with fail
  refine (tz_4096 _ hT1).mono ?_
  rintro e w1 ⟨rfl, rfl⟩
  go_wp2_with fail
  refine (hf _).mono ?_
  rintro e w1 ⟨rfl, rfl⟩
  go_wp2_with fail
  refine (hb10 _).mono ?_
  rintro e w1 ⟨rfl, rfl⟩
  have hd0 : Blk (w1.alloc (.cells #[.int .i64 0, .int .u64 0, .int .i64 0, .int .i64 0, .bool false] 108)) w1.heap.size 108 #[.int .i64 0, .int .u64 0, .int .i64 0, .int .i64 0, .bool false] := Blk.new _ _ _
  have hz1 := hz.alloc (.cells #[.int .i64 0, .int .u64 0, .int .i64 0, .int .i64 0, .bool false] 108)
  have hB1 := B0.alloc B0.size (.cells #[.int .i64 0, .int .u64 0, .int .i64 0, .int .i64 0, .bool false] 108)
  have hlt := hz.lt
  clear hz B0 hT1
  go_wp2_with (first
    | ((with_reducible refine at_build 108 ?_); refine wpList_runV rfl (Flow.reg_build _ rfl rfl (run_dscL _ _ _)) ?_)
    | ((with_reducible refine at_store 108 ?_); refine wpList_storeAll _ rfl 108 _ _ rfl w1.heap.size 108 _ (Dc.cells ⟨2, pa, 0, 0, true⟩) hd0 rfl rfl rfl infDesc (dc_one _) ?_; intro W2 hb2 hg2 hs2
       have c0 : W2.cell? ⟨w1.heap.size, 0, none⟩ = some (.int .i64 2) := (hb2.cell 0).trans rfl
       have f0 := hb2.frozen 0))
  have hd3 : Blk (W2.setCell ⟨w1.heap.size, 0, none⟩ (.int .i64 3)) w1.heap.size 108 #[.int .i64 3, .int .u64 (pa : Int), .int .i64 0, .int .i64 0, .bool true] := hb2.set_ 0 (.int .i64 3)
  have hg3 := s_grown W2 w1.heap.size 0 (.int .i64 3)
  have hz2 := hz1.grown hg2 (fun e => by have := Option.some.inj e; omega)
  have hz3 := hz2.grown hg3 (fun e => by have := Option.some.inj e; omega)
  have hB2 := grown_below hB1 hg2 hB1.size (by omega)
  have hB3 := grown_below hB2 hg3 hB2.size (by omega)
  clear c0 f0 hd0 hz1 hz2 hb2 hg2 hs2 hg3 hB1 hB2
  generalize W2.setCell ⟨w1.heap.size, 0, none⟩ (.int .i64 3) = W3 at *
  refine (hf4 _).mono ?_
  rintro e w4 ⟨rfl, rfl⟩
  go_wp2_with fail
  refine (hb6 _).mono ?_
  rintro e w5 ⟨rfl, rfl⟩
  have c2 : w5.cell? ⟨w1.heap.size, 2, none⟩ = some (.int .i64 0) := (hd3.cell 2).trans rfl
  have f2 := hd3.frozen 2
  have e1 : bits .or .i64 0 1 = 1 := by decide +kernel
  have e2 : bits .or .i64 1 2 = 3 := by decide +kernel
  go_wp2_with fail
  have hd4 : Blk (w5.setCell ⟨w1.heap.size, 2, none⟩ (.int .i64 1)) w1.heap.size 108 #[.int .i64 3, .int .u64 (pa : Int), .int .i64 1, .int .i64 0, .bool true] := hd3.set_ 2 (.int .i64 1)
  have hg4 := s_grown w5 w1.heap.size 2 (.int .i64 1)
  have hz4 := hz3.grown hg4 (fun e => by have := Option.some.inj e; omega)
  have hB4 := grown_below hB3 hg4 hB3.size (by omega)
  clear c2 f2 hd3 hz3 hg4 hB3
  generalize w5.setCell ⟨w1.heap.size, 2, none⟩ (.int .i64 1) = W6 at *
  refine (hb7 _).mono ?_
  rintro e w7 ⟨rfl, rfl⟩
  have c2 : w7.cell? ⟨w1.heap.size, 2, none⟩ = some (.int .i64 1) := (hd4.cell 2).trans rfl
  have f2 := hd4.frozen 2
  go_wp2_with fail
  have hd5 : Blk (w7.setCell ⟨w1.heap.size, 2, none⟩ (.int .i64 3)) w1.heap.size 108 #[.int .i64 3, .int .u64 (pa : Int), .int .i64 3, .int .i64 0, .bool true] := hd4.set_ 2 (.int .i64 3)
  have hg5 := s_grown w7 w1.heap.size 2 (.int .i64 3)
  have hz5 := hz4.grown hg5 (fun e => by have := Option.some.inj e; omega)
  have hB5 := grown_below hB4 hg5 hB4.size (by omega)
  clear c2 f2 hd4 hz4 hg5 hB4
  generalize w7.setCell ⟨w1.heap.size, 2, none⟩ (.int .i64 3) = W8 at *
  refine (hb54 _).mono ?_
  rintro e w9 ⟨rfl, rfl⟩
  go_wp2_with (first
    | ((with_reducible refine at_load 108 ?_); refine wpList_loadAllW _ rfl 108 _ rfl w1.heap.size 108 _ hd5 _ rfl Tryz.underlying108 rfl infDesc ?_)
    | ((with_reducible refine at_store 108 ?_); refine wpList_storeAll _ rfl 108 _ _ rfl w.heap.size 108 _ (Dc.cells ⟨3, pa, 3, 0, true⟩) hz5 rfl rfl rfl infDesc (dc_one _) ?_; intro W9 hb9 hg9 hs9))
  refine bodyPost_ret (results_cellS (cs := Dc.cells ⟨3, pa, 3, 0, true⟩) rfl _ _ w.heap.size _ _ _ rfl hb9 Tryz.underlying108 rfl infDesc) rfl ?_
  exact ⟨rfl, grown_below hB5 hg9 hB5.size (by omega)⟩
end Go.Proofs.YtpellkblaeeopaaGreatDoor
/-
  Walk: walk.Walk through tables that Build has laid.
-/
namespace Go.Proofs.YtpellkblaeeopaaGreatDoor
open Go.RowKit

theorem Tz.below {W W' : World} (h : Tz W) {n : Nat} (e : Below n W W') (hn : W.heap.size ≤ n := by exact Nat.le_refl _) : Tz W' := by
  have hl : 0 < W.heap.size := World.block_lt_of_cell? W _ h
  exact (World.cell?_of_block (e.block 0 (by omega))).trans h
/-- what is hit: address s, to be read and written, normal, at level 3 -/
def hitC (s : Nat) : Array Value := #[.int .u64 (s : Int), .int .i64 3, .int .i64 0, .int .i64 3]
theorem infHit : (Tryz.prog.info? 43).map (·.size) = some 4 := by kernel_rfl
theorem run_hit (w : World) (s : Nat) : (Instr.build 43 #[(0, .int .u64 (s : Int)), (1, .int .i64 3), (2, .int .i64 0), (3, .int .i64 3)]).run Tryz.prog w = .ok (.agg (hitC s)) w := by kernel_rfl
theorem hit_one (s : Nat) : ∀ v ∈ (hitC s).toList, v.oneCell' = true := by
  intro v hv
  simp only [hitC, List.mem_cons, List.not_mem_nil, or_false] at hv
  rcases hv with rfl | rfl | rfl | rfl <;> rfl
theorem results_cellST {P : Program} {fn : Func} {p q : Tmp} {ty : TypeId} (h : fn.results = #[.cell p ty, .tmp q]) (tmps : Array Value) (w : World) (g : Nat) (t : TypeId) (cs : Array Value) (fr : Nat × Nat) (d : TypeDesc) (v : Value)
    (hp : tmps.getD p undef = .pointer (some ⟨g, 0, none⟩)) (hq : tmps.getD q undef = v) (hg : w.heap[g]? = some (.cells cs t fr))
    (hu : P.underlying ty = some d) (hd : (match d with | .struct _ | .array _ _ => true | _ => false) = true) (hi : (P.info? ty).map (·.size) = some cs.size) :
    (results fn tmps).run P w = .ok (.tuple #[.agg cs, v]) w := by
  have hp' : tmps[p]?.getD undef = .pointer (some ⟨g, 0, none⟩) := by simpa using hp
  have hq' : tmps[q]?.getD undef = v := by simpa using hq
  simp [results, h, hp', hq', asAddr, run_loadVar_row w g t ty cs fr d hg hu hd hi]
/-- the walker's cells -/
def wkC (p : Nat) : Array Value := #[.pointer (some ⟨p, 0, none⟩), .slice none 0 0, .bool false]
def tabA (k0 k : Nat) : Nat := if k = 1 then pgA k0 else if k = 2 then pgA (k0 + 2) else pgA (k0 + 3)
def slN (at_ k : Nat) : Nat := if k = 3 then at_ / 4096 % 512 else 0
def wdN (k0 k pa : Nat) : Nat := if k = 1 then pgA (k0 + 2) + 3 else if k = 2 then pgA (k0 + 3) + 3 else leafW 3 pa 3 0
structure WkR (w wr : World) (p k : Nat) : Prop where
  k : k = 1 ∨ k = 2 ∨ k = 3
  B : Below w.heap.size w wr
  z : Blk wr w.heap.size 43 #[.int .u64 0, .int .i64 0, .int .i64 0, .int .i64 0]
  b : Blk wr (w.heap.size + 1) 104 (wkC p)
set_option maxRecDepth 100000 in
set_option maxHeartbeats 4000000 in
theorem walk_any (p k0 J : Nat) (hk0 : k0 = 0 ∨ k0 = 4) (pas : Nat → Nat) (m : Mm) (F : Nat → Prop) (N : Nat) (hJ : J ≤ 512) (at_ : Nat) (hat : at_ < 4096 * J) (hpa : pas (at_ / 4096) % 4096 = 0) (hpl : pas (at_ / 4096) < 1099511627776) (hm : TabM m k0 J pas) (w : World) (hT : Tz w)
    (hM : PMem w p ramT m F N) :
    Calls Tryz.prog 10 #[.pointer (some ⟨p, 0, none⟩), .int .u64 (pgA k0 : Int), .int .u64 (at_ : Int)] w fun e w' => e = .returned (.tuple #[.agg (hitC (pas (at_ / 4096) + at_ % 4096)), .int .i64 0]) ∧ Below w.heap.size w w' := by
  obtain ⟨pa, hpae⟩ : ∃ pa, pa = pas (at_ / 4096) := ⟨_, rfl⟩
  rw [← hpae] at hpa hpl ⊢
  have hwd : ∀ k, k = 1 ∨ k = 2 ∨ k = 3 → ∀ ad, ad = tabA k0 k + 8 * slN at_ k → ∀ W, Below w.heap.size w W → Calls Tryz.prog 30 #[.pointer (some ⟨p, 0, none⟩), .int .u64 (ad : Int)] W fun e w' => e = .returned (.tuple #[.int .u64 (wdN k0 k pa : Int), .int .i64 0]) ∧ Below W.heap.size W w' := by
    intro k hk ad had W hB
    subst had
    have hb : 1073741824 ≤ tabA k0 k + 8 * slN at_ k ∧ tabA k0 k + 8 * slN at_ k + 8 ≤ 1140850688 ∧ (tabA k0 k + 8 * slN at_ k) % 8 = 0 := by
      unfold tabA slN pgA
      rcases hk with rfl | rfl | rfl <;> simp <;> omega
    have h := mword_any p ramT ⟨by decide, by decide⟩ m F N (tabA k0 k + 8 * slN at_ k) (by omega) W (hM.below hB (Nat.le_refl _))
    obtain ⟨e1, e2⟩ := word_ram (m := m) hb.1 hb.2.1 hb.2.2
    rw [e1, e2] at h
    have e3 : W64 m (tabA k0 k + 8 * slN at_ k) = wdN k0 k pa := by
      unfold tabA slN wdN
      rcases hk with rfl | rfl | rfl
      · exact hm.one
      · exact hm.two
      · have := hm.leaf (at_ / 4096) (by omega)
        rw [← hpae] at this
        simp only [Nat.reduceEqDiff, if_false, if_true]
        rw [Nat.mod_eq_of_lt (by omega)]
        exact this
    rw [e3] at h
    exact h
  obtain ⟨root, hroot⟩ : ∃ root, root = pgA k0 := ⟨_, rfl⟩
  have hpg : ∀ k, k = 1 ∨ k = 2 ∨ k = 3 → tabA k0 k < 1090000000 := by
    intro k hk
    unfold tabA pgA
    rcases hk with rfl | rfl | rfl <;> simp <;> omega
  have HPG := Lib.hid hpg
  have HWD := Lib.hid hwd
  rw [show (pgA k0 : Int) = ((tabA k0 1 : Nat) : Int) from rfl]
  clear hwd hpae hm hroot hpg hM
  have hge : decide ((at_ : Int) ≥ 1099511627776) = false := by simp; omega
  have hz0 := Blk.new w 43 #[.int .u64 0, .int .i64 0, .int .i64 0, .int .i64 0]
  have B00 := (Below.refl _ w).alloc (Nat.le_refl _) (.cells #[.int .u64 0, .int .i64 0, .int .i64 0, .int .i64 0] 43)
  have hw0 := Blk.new (w.alloc (.cells #[.int .u64 0, .int .i64 0, .int .i64 0, .int .i64 0] 43)) 104 (wkC p)
  go_enter Tryz.func10, Tryz.ntmps10
  go_wp2_with fail
  generalize hW1 : (w.alloc (.cells #[.int .u64 0, .int .i64 0, .int .i64 0, .int .i64 0] 43)).alloc _ = W1 at *
  go_loopw [9, 10] (fun z i wr => ∃ k : Nat, WkR w wr p k ∧ i = .int .i64 (k : Int) ∧ z = .int .u64 (tabA k0 k : Int)) (fun _ i _ => 3 - (intOf i).toNat)
  case round =>
    obtain ⟨k, ⟨hk, hBw, hbz, hbw⟩, rfl, rfl⟩ := hrel
    obtain ⟨T, hTe⟩ : ∃ T, T = tabA k0 k := ⟨_, rfl⟩
    have hTl : T < 1090000000 := hTe ▸ HPG.out k hk
    rcases hk with rfl | rfl | rfl
    · have hsz := dsize_any 1 (by omega)
      rw [show (lvN 1 : Int) = 1073741824 from rfl] at hsz
      have hq : (at_ : Int).tdiv 1073741824 = 0 := by rw [Int.tdiv_eq_ediv_of_nonneg (by omega)]; omega
      have hq2 : (at_ : Int) / 1073741824 = 0 := by omega
      have HTE := Lib.hid (show T = tabA k0 1 + 8 * slN at_ 1 from hTe)
      rw [← hTe]
      clear hTe
      have e1 : ((1 : Nat) : Int) = 1 := rfl
      simp only [e1] at hsz ⊢
      go_wp2_with fail
      refine (hsz _).mono ?_
      rintro e w1 ⟨rfl, rfl⟩
      have cw : w1.cell? ⟨w.heap.size + 1, 0, none⟩ = some (.pointer (some ⟨p, 0, none⟩)) := (hbw.cell 0).trans rfl
      go_wp2_with fail
      refine (HWD.out 1 (by omega) T (HTE.out) _ hBw).mono ?_
      rintro e w2 ⟨rfl, hB2⟩
      have hwn : wdN k0 1 pa = tabA k0 2 + 3 := rfl
      rw [hwn]
      obtain ⟨T2, hT2⟩ : ∃ T2, T2 = tabA k0 2 := ⟨_, rfl⟩
      have hT2l : T2 < 1090000000 := hT2 ▸ HPG.out 2 (by omega)
      have hT24 : T2 % 4096 = 0 := by rw [hT2]; unfold tabA pgA; simp
      rw [← hT2]
      have hof := of_table 1 T2 (by omega) hT24 (by omega)
      obtain ⟨x2, hx2⟩ : ∃ x2, x2 = T2 + 3 := ⟨_, rfl⟩
      rw [← hx2] at hof ⊢
      simp only [e1, Dc.cells] at hof
      have HB2 := hBw.trans (hB2.mono hBw.size)
      have hbz2 := hbz.below hB2 hbz.lt
      have hbw2 := hbw.below hB2 hbw.lt
      have HX := Lib.hid (And.intro hx2 hT2)
      clear hx2 hT2 hwn hT24 cw hB2 hbz hbw hBw
      go_wp2_with fail
      refine (hof _).mono ?_
      rintro e w3 ⟨rfl, hB3⟩
      have HB3 := HB2.trans (hB3.mono HB2.size)
      have hbz3 := hbz2.below hB3 hbz2.lt
      have hbw3 := hbw2.below hB3 hbw2.lt
      clear hbz2 hbw2 hof HB2
      have hd := Blk.new w3 108 #[.int .i64 1, .int .u64 (T2 : Int), .int .i64 0, .int .i64 0, .bool false]
      have hbz4 := hbz3.alloc (.cells #[.int .i64 1, .int .u64 (T2 : Int), .int .i64 0, .int .i64 0, .bool false] 108)
      have hbw4 := hbw3.alloc (.cells #[.int .i64 1, .int .u64 (T2 : Int), .int .i64 0, .int .i64 0, .bool false] 108)
      have HB4 := HB3.alloc HB3.size (.cells #[.int .i64 1, .int .u64 (T2 : Int), .int .i64 0, .int .i64 0, .bool false] 108)
      go_wp2_with fail
      go_roundw
      case rel => exact ⟨2, ⟨by omega, HB4, hbz4, hbw4⟩, rfl, by rw [HX.out.2]⟩
      case measure => simp [intOf]
    · have hsz := dsize_any 2 (by omega)
      rw [show (lvN 2 : Int) = 2097152 from rfl] at hsz
      have hq : (at_ : Int).tdiv 2097152 = 0 := by rw [Int.tdiv_eq_ediv_of_nonneg (by omega)]; omega
      have hq2 : (at_ : Int) / 2097152 = 0 := by omega
      have HTE := Lib.hid (show T = tabA k0 2 + 8 * slN at_ 2 from hTe)
      rw [← hTe]
      clear hTe
      have e1 : ((2 : Nat) : Int) = 2 := rfl
      simp only [e1] at hsz ⊢
      go_wp2_with fail
      refine (hsz _).mono ?_
      rintro e w1 ⟨rfl, rfl⟩
      have cw : w1.cell? ⟨w.heap.size + 1, 0, none⟩ = some (.pointer (some ⟨p, 0, none⟩)) := (hbw.cell 0).trans rfl
      go_wp2_with fail
      refine (HWD.out 2 (by omega) T (HTE.out) _ hBw).mono ?_
      rintro e w2 ⟨rfl, hB2⟩
      have hwn : wdN k0 2 pa = tabA k0 3 + 3 := rfl
      rw [hwn]
      obtain ⟨T2, hT2⟩ : ∃ T2, T2 = tabA k0 3 := ⟨_, rfl⟩
      have hT2l : T2 < 1090000000 := hT2 ▸ HPG.out 3 (by omega)
      have hT24 : T2 % 4096 = 0 := by rw [hT2]; unfold tabA pgA; simp
      rw [← hT2]
      have hof := of_table 2 T2 (by omega) hT24 (by omega)
      obtain ⟨x2, hx2⟩ : ∃ x2, x2 = T2 + 3 := ⟨_, rfl⟩
      rw [← hx2] at hof ⊢
      simp only [e1, Dc.cells] at hof
      have HB2 := hBw.trans (hB2.mono hBw.size)
      have hbz2 := hbz.below hB2 hbz.lt
      have hbw2 := hbw.below hB2 hbw.lt
      have HX := Lib.hid (And.intro hx2 hT2)
      clear hx2 hT2 hwn hT24 cw hB2 hbz hbw hBw
      go_wp2_with fail
      refine (hof _).mono ?_
      rintro e w3 ⟨rfl, hB3⟩
      have HB3 := HB2.trans (hB3.mono HB2.size)
      have hbz3 := hbz2.below hB3 hbz2.lt
      have hbw3 := hbw2.below hB3 hbw2.lt
      clear hbz2 hbw2 hof HB2
      have hd := Blk.new w3 108 #[.int .i64 1, .int .u64 (T2 : Int), .int .i64 0, .int .i64 0, .bool false]
      have hbz4 := hbz3.alloc (.cells #[.int .i64 1, .int .u64 (T2 : Int), .int .i64 0, .int .i64 0, .bool false] 108)
      have hbw4 := hbw3.alloc (.cells #[.int .i64 1, .int .u64 (T2 : Int), .int .i64 0, .int .i64 0, .bool false] 108)
      have HB4 := HB3.alloc HB3.size (.cells #[.int .i64 1, .int .u64 (T2 : Int), .int .i64 0, .int .i64 0, .bool false] 108)
      go_wp2_with fail
      go_roundw
      case rel => exact ⟨3, ⟨by omega, HB4, hbz4, hbw4⟩, rfl, by rw [HX.out.2]⟩
      case measure => simp [intOf]
    · have hsz := dsize_any 3 (by omega)
      rw [show (lvN 3 : Int) = 4096 from rfl] at hsz
      obtain ⟨j, hj⟩ : ∃ j, j = at_ / 4096 := ⟨_, rfl⟩
      have hj5 : j < 512 := by omega
      have hq : (at_ : Int).tdiv 4096 = (j : Int) := by rw [Int.tdiv_eq_ediv_of_nonneg (by omega)]; omega
      have hq2 : (at_ : Int) / 4096 = (j : Int) := by omega
      have hr : (j : Int).tmod 512 = (j : Int) := by rw [Int.tmod_eq_emod_of_nonneg (by omega)]; omega
      have hr2 : (j : Int) % 512 = (j : Int) := by omega
      obtain ⟨ad, had⟩ : ∃ ad, ad = T + 8 * j := ⟨_, rfl⟩
      have hadi : (T : Int) + 8 * (j : Int) = (ad : Int) := by omega
      have hadl : ad < 1099511627776 := by omega
      have hwj : IntKind.u64.wrap (j : Int) = (j : Int) := IntWalk.u64_in _ (by omega)
      have HAD := Lib.hid (show ad = tabA k0 3 + 8 * slN at_ 3 by rw [had, hTe]; unfold slN; rw [if_pos rfl]; omega)
      have HJ := Lib.hid hj
      have e1 : ((3 : Nat) : Int) = 3 := rfl
      simp only [e1] at hsz ⊢
      rw [← hTe]
      clear hTe had hj
      go_wp2_with fail
      refine (hsz _).mono ?_
      rintro e w1 ⟨rfl, rfl⟩
      have cw : w1.cell? ⟨w.heap.size + 1, 0, none⟩ = some (.pointer (some ⟨p, 0, none⟩)) := (hbw.cell 0).trans rfl
      go_wp2_with fail
      refine (HWD.out 3 (by omega) ad HAD.out _ hBw).mono ?_
      rintro e w2 ⟨rfl, hB2⟩
      have hwn : wdN k0 3 pa = leafW 3 pa 3 0 := rfl
      rw [hwn]
      have HB2 := hBw.trans (hB2.mono hBw.size)
      have hbz2 := hbz.below hB2 hbz.lt
      have hbw2 := hbw.below hB2 hbw.lt
      have hof := of_leaf pa hpa hpl w2 (hT.below HB2)
      obtain ⟨x2, hx2⟩ : ∃ x2, x2 = leafW 3 pa 3 0 := ⟨_, rfl⟩
      rw [← hx2] at hof ⊢
      have e0 : ((0 : Nat) : Int) = 0 := rfl
      simp only [Dc.cells, e1, e0] at hof
      clear hx2 hwn cw hB2 hbz hbw hBw
      go_wp2_with fail
      refine hof.mono ?_
      rintro e w3 ⟨rfl, hB3⟩
      have HB3 := HB2.trans (hB3.mono HB2.size)
      have hbz3 := hbz2.below hB3 hbz2.lt
      have hbw3 := hbw2.below hB3 hbw2.lt
      clear hbz2 hbw2 hof HB2
      have hd : Blk (w3.alloc (.cells #[.int .i64 3, .int .u64 (pa : Int), .int .i64 3, .int .i64 0, .bool true] 108)) w3.heap.size 108 #[.int .i64 3, .int .u64 (pa : Int), .int .i64 3, .int .i64 0, .bool true] := Blk.new _ _ _
      have hbz4 := hbz3.alloc (.cells #[.int .i64 3, .int .u64 (pa : Int), .int .i64 3, .int .i64 0, .bool true] 108)
      have HB4 := HB3.alloc HB3.size (.cells #[.int .i64 3, .int .u64 (pa : Int), .int .i64 3, .int .i64 0, .bool true] 108)
      have hpge : decide ((pa : Int) ≥ 1099511627776) = false := by simp; omega
      have hSz : ∀ W, Calls Tryz.prog 29 #[.int .i64 3] W fun e w' => e = .returned (.int .u64 4096) ∧ w' = W := hsz
      obtain ⟨r, hre⟩ : ∃ r, r = at_ % 4096 := ⟨_, rfl⟩
      have hrm : (at_ : Int).tmod 4096 = (r : Int) := by rw [Int.tmod_eq_emod_of_nonneg (by omega)]; omega
      have hrm2 : (at_ : Int) % 4096 = (r : Int) := by omega
      have hrl : r < 4096 := by omega
      obtain ⟨s, hse⟩ : ∃ s, s = pa + r := ⟨_, rfl⟩
      have hsi : (pa : Int) + (r : Int) = (s : Int) := by omega
      have hws : IntKind.u64.wrap (s : Int) = (s : Int) := IntWalk.u64_in _ (by omega)
      have hwr : IntKind.u64.wrap (r : Int) = (r : Int) := IntWalk.u64_in _ (by omega)
      have HS := Lib.hid (show pa + at_ % 4096 = s by omega)
      go_wp2_with fail
      obtain ⟨dd, hdde⟩ : ∃ dd, dd = w3.heap.size := ⟨_, rfl⟩
      rw [← hdde] at hd ⊢
      have hddl : w.heap.size < dd := by have := hbz3.lt; omega
      clear hdde hre hse
      generalize w3.alloc (.cells #[.int .i64 3, .int .u64 (pa : Int), .int .i64 3, .int .i64 0, .bool true] 108) = W1 at *
      have hdd := hd
      refine Reg.wp_region_tail 13 [] (by kernel_rfl) (by kernel_rfl) (by kernel_rfl) (by kernel_rfl) (by kernel_rfl) ?_
      refine Reg.pass_val (.pointer (some ⟨dd, 1, none⟩)) (Reg.met_none rfl) (fun a W hE hS => ?_) ?_
      · have e0 := Reg.see_old 14 hS (by kernel_rfl) (by kernel_rfl) rfl
        go_simp; first | done | rfl
      refine Reg.pass_val (.int .u64 (pa : Int)) (Reg.met_none rfl) (fun a W hE hS => ?_) ?_
      · have e0 := Reg.see_new 50 0 hS (by kernel_rfl) (by kernel_rfl) rfl rfl
        have cc : World.cell? W ⟨dd, 1, none⟩ = some (.int .u64 (pa : Int)) := ((hdd.drew.ext hE).cell 1).trans rfl; go_simp; first | done | rfl
      refine Reg.pass_old (X := .int .u64 (at_ : Int)) 2 (Reg.met_none rfl) (.inl rfl) (by kernel_rfl) (by kernel_rfl) rfl ?_
      refine Reg.pass_old (X := .int .i64 3) 10 (Reg.met_none rfl) (.inl rfl) (by kernel_rfl) (by kernel_rfl) rfl ?_
      refine Reg.pass_step (Reg.eqs (.int .u64 4096)) (Reg.stable_eqs _) (Reg.met_none rfl) (fun a W hE hS => ?_) ?_
      · have e0 := Reg.see_new 53 3 hS (by kernel_rfl) (by kernel_rfl) rfl rfl
        refine Reg.wp_call rfl Tryz.func29 rfl (by kernel_rfl) (by simp [Act.eval, e0]) (hSz W) ?_
        rintro e w' ⟨rfl, rfl⟩
        exact ⟨_, rfl, _, rfl, Below.refl _ _, rfl⟩
      refine Reg.pass_val (.int .u64 (r : Int)) (Reg.met_none rfl) (fun a W hE hS => ?_) ?_
      · have e0 := Reg.see_new 52 2 hS (by kernel_rfl) (by kernel_rfl) rfl rfl
        have e1 := Reg.see_new 54 4 hS (by kernel_rfl) (by kernel_rfl) rfl rfl
        go_simp; first | done | omega
      refine Reg.pass_val (.int .u64 (s : Int)) (Reg.met_none rfl) (fun a W hE hS => ?_) ?_
      · have e0 := Reg.see_new 51 1 hS (by kernel_rfl) (by kernel_rfl) rfl rfl
        have e1 := Reg.see_new 55 5 hS (by kernel_rfl) (by kernel_rfl) rfl rfl
        go_simp; first | done | omega
      refine Reg.pass_val (.pointer (some ⟨dd, 2, none⟩)) (Reg.met_none rfl) (fun a W hE hS => ?_) ?_
      · have e0 := Reg.see_old 14 hS (by kernel_rfl) (by kernel_rfl) rfl
        go_simp; first | done | rfl
      refine Reg.pass_val (.int .i64 3) (Reg.met_none rfl) (fun a W hE hS => ?_) ?_
      · have e0 := Reg.see_new 57 7 hS (by kernel_rfl) (by kernel_rfl) rfl rfl
        have cc : World.cell? W ⟨dd, 2, none⟩ = some (.int .i64 3) := ((hdd.drew.ext hE).cell 2).trans rfl; go_simp; first | done | rfl
      refine Reg.pass_val (.pointer (some ⟨dd, 3, none⟩)) (Reg.met_none rfl) (fun a W hE hS => ?_) ?_
      · have e0 := Reg.see_old 14 hS (by kernel_rfl) (by kernel_rfl) rfl
        go_simp; first | done | rfl
      refine Reg.pass_val (.int .i64 0) (Reg.met_none rfl) (fun a W hE hS => ?_) ?_
      · have e0 := Reg.see_new 59 9 hS (by kernel_rfl) (by kernel_rfl) rfl rfl
        have cc : World.cell? W ⟨dd, 3, none⟩ = some (.int .i64 0) := ((hdd.drew.ext hE).cell 3).trans rfl; go_simp; first | done | rfl
      refine Reg.pass_old (X := .int .i64 3) 10 (Reg.met_none rfl) (.inl rfl) (by kernel_rfl) (by kernel_rfl) rfl ?_
      refine Reg.pass_val (.agg (hitC s)) (Reg.met_none rfl) (fun a W hE hS => ?_) ?_
      · have e0 := Reg.see_new 56 6 hS (by kernel_rfl) (by kernel_rfl) rfl rfl
        have e1 := Reg.see_new 58 8 hS (by kernel_rfl) (by kernel_rfl) rfl rfl
        have e2 := Reg.see_new 60 10 hS (by kernel_rfl) (by kernel_rfl) rfl rfl
        have e3 := Reg.see_new 61 11 hS (by kernel_rfl) (by kernel_rfl) rfl rfl
        exact Flow.reg_build _ rfl (by simp [Act.eval, e0, e1, e2, e3]) (run_hit W s)
      refine ⟨(fun i hi => by cases hi), ?_⟩
      refine Reg.tail_end [none, none, none, none, none, none, none, none, none, none, none, none, none, none, none, none, none, none, none, none, none, none, none, none, none, none, none, none, none, none, none, none, none, none, none, none, none, none, none, none, none, none, none, none, none, none, none, none, none, none, some 50, some 51, some 52, some 53, some 54, some 55, some 56, some 57, some 58, some 59, some 60, some 61, some 62, none, none, none, none, none, none, none, none, none, none, none, none, none, none, none, none, none, none, none, none, none, none, none, none, none] (by kernel_rfl) ?_
      intro ff w9 hE hf hfr
      have h50 : ff 50 = _ := hf 50 0 _ (by kernel_rfl) (by decide) rfl
      have h51 : ff 51 = _ := hf 51 1 _ (by kernel_rfl) (by decide) rfl
      have h52 : ff 52 = _ := hf 52 2 _ (by kernel_rfl) (by decide) rfl
      have h53 : ff 53 = _ := hf 53 3 _ (by kernel_rfl) (by decide) rfl
      have h54 : ff 54 = _ := hf 54 4 _ (by kernel_rfl) (by decide) rfl
      have h55 : ff 55 = _ := hf 55 5 _ (by kernel_rfl) (by decide) rfl
      have h56 : ff 56 = _ := hf 56 6 _ (by kernel_rfl) (by decide) rfl
      have h57 : ff 57 = _ := hf 57 7 _ (by kernel_rfl) (by decide) rfl
      have h58 : ff 58 = _ := hf 58 8 _ (by kernel_rfl) (by decide) rfl
      have h59 : ff 59 = _ := hf 59 9 _ (by kernel_rfl) (by decide) rfl
      have h60 : ff 60 = _ := hf 60 10 _ (by kernel_rfl) (by decide) rfl
      have h61 : ff 61 = _ := hf 61 11 _ (by kernel_rfl) (by decide) rfl
      have h62 : ff 62 = _ := hf 62 12 _ (by kernel_rfl) (by decide) rfl
      clear hf hfr 
      have hz9 := hbz4.drew.ext hE
      have B9 : Below w.heap.size w w9 := HB4.trans ((((Below.refl _ W1).drew).trans (hE.below (Nat.le_refl _))).mono HB4.size)
      simp only [Reg.sel, h62, List.drop_succ_cons, List.drop_zero]
      go_wp2_with (first
        | ((with_reducible refine at_store 43 ?_); refine wpList_storeAll _ rfl 43 _ _ rfl w.heap.size 43 _ (hitC s) hz9 rfl rfl rfl infHit (hit_one _) ?_; intro W2 hb2 hg2 hs2))
      refine bodyPost_ret (results_cellST (cs := hitC s) rfl _ _ w.heap.size _ _ _ (.int .i64 0) rfl rfl hb2 Tryz.underlying43 rfl infHit) rfl ?_
      exact ⟨by rw [HS.out], grown_below B9 hg2 B9.size (by omega)⟩
  case atStart =>
    subst hW1
    exact ⟨1, ⟨.inl rfl, B00.alloc B00.size _, hz0.alloc _, by have := hw0; rw [World.size_alloc] at this; exact this⟩, rfl, rfl⟩
end Go.Proofs.YtpellkblaeeopaaGreatDoor
/-
  Plain: the pages that Take has chosen, cut from the stretches, are the chosen pages in order.
-/
namespace Go.Proofs.YtpellkblaeeopaaGreatDoor
open Go.RowKit

def adA (k : Nat) : Nat := 1090519040 + 4096 * k
def ksE (ks : List Nat) : List En := ks.map fun k => (adA k, adA k + 4095)
def leE (a b : En) : Prop := a.1 < b.1 ∨ (a.1 = b.1 ∧ a.2 ≤ b.2)
theorem sorted_inc {ks : List Nat} {srt : List En} (hk : ks.Pairwise (· < ·)) (h : SortedE (ksE ks) srt) : srt = ksE ks := by
  refine (sortedE_perm h).eq_of_pairwise (le := leE) ?_ ?_ ?_
  · rintro ⟨a1, a2⟩ ⟨b1, b2⟩ _ _ h1 h2
    unfold leE at h1 h2
    simp only [Prod.mk.injEq] at *
    omega
  · rw [List.pairwise_iff_getElem]
    intro i j hi hj hij
    have := h.2.1 i j (by omega) hij (by rw [← h.2.2]; exact hj)
    rw [getElem!_pos srt.toArray j (by simpa using hj), getElem!_pos srt.toArray i (by simpa using hi), ends_lt] at this
    simp only [List.getElem_toArray, decide_eq_false_iff_not, not_or, not_and] at this
    unfold leE
    omega
  · unfold ksE
    rw [List.pairwise_map]
    exact hk.imp fun {a b} h => .inl (by simp only [adA]; omega)
structure MgOk (ks : List Nat) (o : List En) : Prop where
  pg : pagesL (o.map toSp) = ks.map adA
  ok : ∀ e ∈ o, e.1 % 4096 = 0 ∧ e.2 % 4096 = 4095 ∧ e.1 ≤ e.2 ∧ e.2 < 1124073472 ∧ 1090519040 ≤ e.1
  last : ∀ p o', o = o' ++ [p] → ∃ k', ks.getLast? = some k' ∧ p.2 = adA k' + 4095
theorem pages_one (a n : Nat) (h : a ≤ n) (hn : (n - a + 1) % 4096 = 0) : pagesL [toSp (a, n + 4096)] = pagesL [toSp (a, n)] ++ [n + 1] := by
  have e : (n + 4096 - a + 1) / 4096 = (n - a + 1) / 4096 + 1 := by omega
  simp only [pagesL, toSp, List.flatMap_cons, List.flatMap_nil, List.append_nil, e, List.range_succ, List.map_append, List.map_cons, List.map_nil]
  congr 2
  omega
theorem MgOk.step {ks : List Nat} {o : List En} (h : MgOk ks o) (k : Nat) (hk : k < 8192) (hlt : ∀ k' ∈ ks, k' < k) : MgOk (ks ++ [k]) (mStep o (adA k, adA k + 4095)) := by
  rcases List.eq_nil_or_concat o with rfl | ⟨o', p, hop⟩
  · have hks : ks = [] := by
      have := h.pg
      simpa [pagesL] using this.symm
    subst hks
    rw [mStep_nil]
    refine ⟨?_, ?_, ?_⟩
    · simp [pagesL, toSp]
    · intro e he
      rw [List.mem_singleton.1 he]
      simp only [adA]
      omega
    · intro p o' e
      have := List.append_inj_right' (s₁ := []) (t₁ := [(adA k, adA k + 4095)]) (s₂ := o') (t₂ := [p]) e rfl
      simp only [List.cons.injEq, and_true] at this
      exact ⟨k, rfl, by rw [← this]⟩
  · rw [List.concat_eq_append] at hop
    subst hop
    obtain ⟨k', hk', hp2⟩ := h.last p o' rfl
    have hp := h.ok p (by simp)
    have hkl : k' < k := hlt k' (List.mem_of_getLast? hk')
    rw [mStep_snoc]
    by_cases hj : p.2 = topA ∨ adA k ≤ p.2 + 1
    · rw [if_pos hj]
      have hkk : k = k' + 1 := by
        rcases hj with h | h
        · unfold topA at h; omega
        · unfold adA at h hp2; omega
      have hmx : max p.2 (adA k + 4095) = p.2 + 4096 := by unfold adA at *; omega
      have hpk : p.2 + 1 = adA k := by unfold adA at *; omega
      simp only [hmx]
      refine ⟨?_, ?_, ?_⟩
      · have h1 := h.pg
        rw [List.map_append, pagesL_append] at h1 ⊢
        simp only [List.map_cons, List.map_nil] at h1 ⊢
        rw [pages_one p.1 p.2 hp.2.2.1 (by omega), ← List.append_assoc]
        rw [show toSp (p.1, p.2) = toSp p from rfl, h1, hpk]
        simp
      · intro e he
        rcases List.mem_append.1 he with he | he
        · exact h.ok e (by simp [he])
        · rw [List.mem_singleton.1 he]
          refine ⟨hp.1, ?_, ?_, ?_, hp.2.2.2.2⟩
          · simp only; omega
          · simp only; omega
          · simp only; unfold adA at hpk; omega
      · intro q o2 e
        have := List.append_inj_right' e rfl
        simp only [List.cons.injEq, and_true] at this
        refine ⟨k, by simp, ?_⟩
        rw [← this]
        simp only
        omega
    · rw [if_neg hj]
      refine ⟨?_, ?_, ?_⟩
      · have h1 := h.pg
        rw [List.map_append, pagesL_append, h1]
        simp [pagesL, toSp]
      · intro e he
        rcases List.mem_append.1 he with he | he
        · exact h.ok e he
        · rw [List.mem_singleton.1 he]
          simp only [adA]
          omega
      · intro q o2 e
        have := List.append_inj_right' e rfl
        simp only [List.cons.injEq, and_true] at this
        exact ⟨k, by simp, by rw [← this]⟩
theorem MgOk.all : ∀ (suf pre : List Nat) (o : List En), (pre ++ suf).Pairwise (· < ·) → (∀ k ∈ suf, k < 8192) → MgOk pre o → MgOk (pre ++ suf) ((ksE suf).foldl mStep o)
  | [], pre, o, _, _, h => by simpa [ksE] using h
  | k :: suf, pre, o, hp, hk, h => by
    have e : pre ++ k :: suf = (pre ++ [k]) ++ suf := by simp
    rw [e] at hp ⊢
    have hs := h.step k (hk k (by simp)) (fun k' hk' => by
      rw [List.append_assoc, List.pairwise_append] at hp
      exact hp.2.2 k' hk' k (by simp))
    exact MgOk.all suf (pre ++ [k]) _ hp (fun x hx => hk x (by simp [hx])) hs
theorem merge_ks (ks : List Nat) (hp : ks.Pairwise (· < ·)) (hk : ∀ k ∈ ks, k < 8192) : MgOk ks (mergeE (ksE ks)) :=
  MgOk.all ks [] [] hp hk ⟨rfl, fun e he => by simp at he, fun p o' e => by simp at e⟩
/-- the numbers of the chosen pages -/
def ksOf (n mask many : Nat) : List Nat := ((List.range 8192).filter (hitB n mask)).take many
theorem ks_hits (n mask many : Nat) : (hits n mask 8192).take many = (ksOf n mask many).map hitSp := by unfold hits ksOf; rw [List.map_take]
theorem ks_inc (n mask many : Nat) : (ksOf n mask many).Pairwise (· < ·) := List.pairwise_lt_range.sublist ((List.take_sublist _ _).trans List.filter_sublist)
theorem ks_mem {n mask many k : Nat} (h : k ∈ ksOf n mask many) : k < 8192 ∧ hitB n mask k = true := by
  obtain ⟨h1, h2⟩ := List.mem_filter.1 (List.mem_of_mem_take h)
  exact ⟨List.mem_range.1 h1, h2⟩
theorem ks_len {n mask many : Nat} (h : many ≤ (hits n mask 8192).length) : (ksOf n mask many).length = many := by
  have e : (hits n mask 8192).length = ((List.range 8192).filter (hitB n mask)).length := by unfold hits; rw [List.length_map]
  unfold ksOf
  rw [List.length_take, ← e]
  omega
theorem goodE_ks : ∀ (ks : List Nat), (∀ k ∈ ks, k < 8192) → goodE (ks.map hitSp) = ksE ks
  | [], _ => rfl
  | k :: ks, h => by
    have ih := goodE_ks ks (fun x hx => h x (by simp [hx]))
    have hk := h k (by simp)
    have hg : (hitSp k).good = true := Sp.good_iff.2 (by simp only [hitSp]; omega)
    have hl : (hitSp k).last = adA k + 4095 := by rw [Sp.last, if_pos hg]; simp only [hitSp, adA]; omega
    unfold goodE ksE at ih ⊢
    rw [List.map_cons, List.filter_cons_of_pos hg, List.map_cons, List.map_cons, ih]
    have e : endOf (hitSp k) = (adA k, adA k + 4095) := by unfold endOf; rw [hl]; simp only [hitSp, adA]
    rw [e]
/-- what Take's stretches are -/
structure TakeOk (n mask many : Nat) (S : List Sp) : Prop where
  pg : pagesL S = (ksOf n mask many).map adA
  str : Strs S
  sum : sumS S = 4096 * many
  len : S.length ≤ many
theorem take_ok {n mask many : Nat} (h40 : many ≤ 40) (hm : many ≤ (hits n mask 8192).length) {srt : List En} (h : SortedE (goodE ((hits n mask 8192).take many)) srt) : TakeOk n mask many ((mergeE srt).map toSp) := by
  have hl := ks_len hm
  have hk : ∀ k ∈ ksOf n mask many, k < 8192 := fun k hk => (ks_mem hk).1
  rw [ks_hits, goodE_ks _ hk] at h
  have e := sorted_inc (ks_inc n mask many) h
  subst e
  have hM := merge_ks _ (ks_inc n mask many) hk
  have hp4 : ∀ s ∈ (mergeE (ksE (ksOf n mask many))).map toSp, s.pages = true ∧ s.base + s.size ≤ 1099511627776 ∧ s.size % 4096 = 0 := by
    intro s hs
    obtain ⟨e, he, rfl⟩ := List.mem_map.1 hs
    have := hM.ok e he
    simp only [toSp, Sp.pages, decide_eq_true_eq, Sp.good_iff]
    omega
  have hs4 := sumS_mod _ (fun s hs => (hp4 s hs).2.2)
  have hpl := pagesL_length _ (fun s hs => (hp4 s hs).2.2)
  rw [hM.pg, List.length_map, hl] at hpl
  have hsum : sumS ((mergeE (ksE (ksOf n mask many))).map toSp) = 4096 * many := by omega
  refine ⟨hM.pg, ⟨fun s hs => ⟨(hp4 s hs).1, (hp4 s hs).2.1⟩, by omega⟩, hsum, ?_⟩
  rw [List.length_map]
  have := mergeE_len (ksE (ksOf n mask many))
  rw [ksE, List.length_map, hl] at this
  exact this
/-- the page at number i of the chosen ones -/
theorem TakeOk.at {n mask many : Nat} {S : List Sp} (h : TakeOk n mask many S) (hm : many ≤ (hits n mask 8192).length) (i : Nat) (hi : i < many) : ∃ k, k < 8192 ∧ hitB n mask k = true ∧ pasOf S i = adA k := by
  have hl := ks_len hm
  have hi2 : i < (ksOf n mask many).length := by omega
  have hmem := List.getElem_mem hi2
  refine ⟨(ksOf n mask many)[i], (ks_mem hmem).1, (ks_mem hmem).2, ?_⟩
  unfold pasOf
  rw [h.pg, List.getElem?_map, List.getElem?_eq_getElem hi2]
  rfl
/-- colors that are in masks without a common one are unlike -/
theorem hit_apart {n a c k l : Nat} (hac : a &&& c = 0) (h1 : hitB n a k = true) (h2 : hitB n c l = true) : (266240 + k) % n ≠ (266240 + l) % n := by
  intro e
  unfold hitB at h1 h2
  rw [← e] at h2
  obtain ⟨x, hx⟩ : ∃ x, x = (266240 + k) % n := ⟨_, rfl⟩
  rw [← hx] at h1 h2
  have t1 : a.testBit x = true := by rw [Nat.testBit_eq_decide_div_mod_eq]; simpa using h1
  have t2 : c.testBit x = true := by rw [Nat.testBit_eq_decide_div_mod_eq]; simpa using h2
  have : (a &&& c).testBit x = true := by rw [Nat.testBit_and, t1, t2]; rfl
  rw [hac] at this
  simp at this
end Go.Proofs.YtpellkblaeeopaaGreatDoor
