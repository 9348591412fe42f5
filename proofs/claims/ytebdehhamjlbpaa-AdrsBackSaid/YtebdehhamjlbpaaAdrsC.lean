/-
  Walks: portreevelaw04.awake; the statements AdrsBytes, AdrsMakes, AdrsApart.
-/
import Derived.Test.YtebdehhamjlbpaaAdrsB
import Derived.Test.YtebdehhamjlbpaaEq
namespace Go.Proofs.Ytebdehhamjlbpaa
open Go.RowKit

theorem reg_load {P : Program} {o : Oper} {a : Act} {w : World} (ty : TypeId) (t : Tmp) (ho : o.op = .load ty (.tmp t)) {g : Nat} {te : TypeId} {cs : Array Value} (he : a.tmps[t]?.getD undef = .pointer (some ⟨g, 0, none⟩))
    (hb : Blk w g te cs) {d : TypeDesc} (hu : P.underlying ty = some d) (hd : d.isRow = true) (hi : (P.info? ty).map (·.size) = some cs.size) : (execOp a.eval o).run P w = .ok (.value (.agg cs)) w := by
  have := run_loadAt_mid (P := P) w g 0 ty cs.toList d (fun j v hv => by rw [Nat.zero_add, hb.cell]; simpa using hv) hu hd (by simpa using hi)
  simp [execOp, ho, Act.eval, he, this]

def someBytes : List UInt8 := [0, 0, 0, 0, 0, 0, 0, 0, 0, 0, 0, 0, 0, 0, 0, 0, 0, 0, 0, 1, 0, 0, 0, 2, 0, 0, 0, 3, 0, 0, 0, 0]
theorem some_bytes : adBytes 0 0 0 1 2 3 0 = someBytes := by decide

set_option maxHeartbeats 1000000 in
theorem awake04 (w : World) : Calls Try.prog 14 #[] w fun e w' => e = .returned (.bool true) ∧ Below w.heap.size w w' := by
  go_enter Try.func14, Try.ntmps14
  go_wp2_with fail
  refine (ots_any 1 2 3 w).mono ?_
  rintro e w1 ⟨rfl, hB1⟩
  go_wp2_with fail
  refine (abytes_any 0 0 0 1 2 3 0 w1).mono ?_
  rintro e w2 ⟨rfl, hB2⟩
  rw [some_bytes]
  have B2 := hB1.trans (hB2.mono hB1.size)
  clear hB1 hB2
  have hl : Hid ((bcells someBytes).toArray.size = 32) := Lib.hid rfl
  go_wp2_with (refine wpList_storeAll _ rfl 28 _ _ rfl w2.heap.size _ _ _ (Blk.new w2 28 (Array.replicate 32 (.int .u8 0))) rfl rfl (by rw [hl.out]; rfl) (by rw [hl.out]; exact infNode) (by simpa using bcells_one _) ?_; intro w3 hb3 hg3 hs3; have c1 := hb3.cell 19; have c2 := hb3.cell 23; have c3 := hb3.cell 27; have c4 := hb3.cell 15; simp only [bcells, someBytes] at c1 c2 c3 c4)
  go_ret
  exact ⟨rfl, grown_below (B2.alloc B2.size _) hg3 (by simp; have := B2.size; omega) B2.size⟩

set_option maxHeartbeats 1000000 in
theorem adrsBytes_walk (w : World) (x : Ad) (hx : x.ok) :
    Calls Try.prog 3 #[.agg x.cells] w fun e w' => e = .returned (.bool true) ∧ Below w.heap.size w w' := by
  obtain ⟨l, t, k, a', b, c, m⟩ := x
  obtain ⟨h1, h2, h3, h4, h5, h6, h7⟩ := hx
  simp only at h1 h2 h3 h4 h5 h6 h7
  show Calls Try.prog 3 #[.agg #[.int .u32 l, .int .u64 t, .int .u32 k, .int .u32 a', .int .u32 b, .int .u32 c, .int .u32 m]] w _
  go_enter Try.func3, Try.ntmps3
  go_wp2_with fail
  refine (awake04 _).mono ?_
  rintro e w1 ⟨rfl, hB1⟩
  have B1 := ((Below.refl w.heap.size w).alloc (Nat.le_refl _) (.cells #[.int .u32 l, .int .u64 t, .int .u32 k, .int .u32 a', .int .u32 b, .int .u32 c, .int .u32 m] 25)).trans (hB1.mono (by simp))
  have hb0 := ((Blk.new w 25 #[.int .u32 l, .int .u64 t, .int .u32 k, .int .u32 a', .int .u32 b, .int .u32 c, .int .u32 m]).below hB1 (by simp)).drew
  clear hB1
  go_wp2_with fail
  have hng := nodeGuard
  have hne := fun W => nodeEq (adBytes l t k a' b c m) (adBytes l t k a' b c m) (adBytes_length _ _ _ _ _ _ _) (adBytes_length _ _ _ _ _ _ _) W
  refine Reg.wp_region_pass (by kernel_rfl) (by kernel_rfl) ?_
  refine Reg.pass_val (.agg #[.int .u32 l, .int .u64 t, .int .u32 k, .int .u32 a', .int .u32 b, .int .u32 c, .int .u32 m]) (Reg.met_none rfl) (fun a w hE hS => ?_) ?_
  · have e0 := Reg.see_old 1 hS (by kernel_rfl) (by kernel_rfl) rfl
    exact reg_load 25 1 rfl e0 (hb0.ext hE) Try.underlying25 rfl infAdrs
  refine Reg.pass_step (Reg.eqs (.agg (bcells (adBytes l t k a' b c m)).toArray)) (Reg.stable_eqs _) (Reg.met_none rfl) (fun a w hE hS => ?_) ?_
  · have e0 := Reg.see_new 5 0 hS (by kernel_rfl) (by kernel_rfl) rfl rfl
    refine Reg.wp_call rfl Try.func15 rfl (by kernel_rfl) (by simp [Act.eval, e0]) (abytes_any l t k a' b c m w) ?_
    rintro e w' ⟨rfl, hB⟩
    exact ⟨_, rfl, _, rfl, hB, rfl⟩
  refine Reg.pass_val (.agg #[.int .u32 l, .int .u64 t, .int .u32 k, .int .u32 a', .int .u32 b, .int .u32 c, .int .u32 m]) (Reg.met_none rfl) (fun a w hE hS => ?_) ?_
  · have e0 := Reg.see_old 1 hS (by kernel_rfl) (by kernel_rfl) rfl
    exact reg_load 25 1 rfl e0 (hb0.ext hE) Try.underlying25 rfl infAdrs
  refine Reg.pass_step (Reg.eqs (.agg (bcells (adBytes l t k a' b c m)).toArray)) (Reg.stable_eqs _) (Reg.met_none rfl) (fun a w hE hS => ?_) ?_
  · have e0 := Reg.see_new 7 2 hS (by kernel_rfl) (by kernel_rfl) rfl rfl
    refine Reg.wp_call rfl Try.func16 rfl (by kernel_rfl) (by simp [Act.eval, e0]) (rbytes_any l t k a' b c m w h1 h3 h4 h5 h6 h7) ?_
    rintro e w' ⟨rfl, hB⟩
    exact ⟨_, rfl, _, rfl, hB, rfl⟩
  refine Reg.pass_val (.bool true) (Reg.met_none rfl) (fun a w hE hS => ?_) ?_
  · have e0 := Reg.see_new 6 1 hS (by kernel_rfl) (by kernel_rfl) rfl rfl
    have e1 := Reg.see_new 8 3 hS (by kernel_rfl) (by kernel_rfl) rfl rfl
    go_simp
  refine Reg.pass_copy 9 4 (Reg.met_none rfl) (.inr rfl) (by kernel_rfl) (by kernel_rfl) rfl rfl (by first | exact Reg.stable_eqs _ | exact Reg.stable_built _ _ _ | exact Reg.stable_bytes _ _) ?_
  refine Reg.pass_end [none, none, some 2, none, none, some 5, some 6, some 7, some 8, some 9] (by kernel_rfl) ?_
  intro f w9 hE hf
  have h2' : f 2 = .bool true := hf 2 5 _ (by kernel_rfl) rfl
  have B9 := B1.drew.trans (hE.below B1.size)
  clear hf hE hb0 B1 hng hne
  simp only [Reg.sel, h2']
  go_wp2
  go_ret
  exact ⟨rfl, B9⟩

set_option maxHeartbeats 1000000 in
theorem adrsMakes_walk (w : World) (a0 : Int) (w0 : (Lit.int .u32 a0).wf = true) (a1 : Int) (w1 : (Lit.int .u32 a1).wf = true) (a2 : Int) (w2 : (Lit.int .u32 a2).wf = true) (a3 : Int) (w3 : (Lit.int .u32 a3).wf = true) :
    Calls Try.prog 5 #[.int .u32 a0, .int .u32 a1, .int .u32 a2, .int .u32 a3] w fun e w' => e = .returned (.bool true) ∧ Below w.heap.size w w' := by
  obtain ⟨a, _, rfl⟩ := wf_u32 w0
  obtain ⟨b, _, rfl⟩ := wf_u32 w1
  obtain ⟨c, _, rfl⟩ := wf_u32 w2
  obtain ⟨m, _, rfl⟩ := wf_u32 w3
  clear w0 w1 w2 w3
  go_enter Try.func5, Try.ntmps5
  go_wp2_with fail
  refine (awake04 _).mono ?_
  rintro e w1 ⟨rfl, B1⟩
  go_wp2_with fail
  refine (tree_any b c w1).mono ?_
  rintro e w2 ⟨rfl, hB⟩
  have B2 := B1.trans (hB.mono B1.size)
  clear B1 hB
  go_wp2_with fail
  refine (masked_any 0 0 2 0 b c 0 w2 m).mono ?_
  rintro e w3 ⟨rfl, hB⟩
  have B3 := B2.trans (hB.mono B2.size)
  clear B2 hB
  go_wp2_with fail
  have B4 := B3.alloc B3.size (.cells #[.int .u32 0, .int .u64 0, .int .u32 2, .int .u32 0, .int .u32 b, .int .u32 c, .int .u32 m] 25)
  have hb := Blk.new w3 25 #[.int .u32 0, .int .u64 0, .int .u32 2, .int .u32 0, .int .u32 b, .int .u32 c, .int .u32 m]
  refine (ots_any a b c _).mono ?_
  rintro e w4 ⟨rfl, hB⟩
  have B5 := B4.trans (hB.mono B4.size)
  have hb := hb.below hB hb.lt
  clear hB B4 B3
  go_wp2_with fail
  refine (ltree_any a b c _).mono ?_
  rintro e w5 ⟨rfl, hB⟩
  have B6 := B5.trans (hB.mono B5.size)
  have hb := hb.below hB hb.lt
  clear hB B5
  have c0 := hb.cell 0
  have c1 := hb.cell 1
  have c2 := hb.cell 2
  have c3 := hb.cell 3
  have c4 := hb.cell 4
  have c5 := hb.cell 5
  have c6 := hb.cell 6
  go_wp2
  go_ret
  exact ⟨by simp, B6⟩

theorem adBytes_kind (l t k a b c m : Nat) : (adBytes l t k a b c m)[15]? = some (UInt8.ofNat k) := by
  simp [adBytes, putNum, putByte, List.range, List.range.loop]
theorem kinds_apart (l t k a b c m l' t' k' a' b' c' m' : Nat) (h : UInt8.ofNat k ≠ UInt8.ofNat k') : (adBytes l t k a b c m == adBytes l' t' k' a' b' c' m') = false := by
  rw [beq_eq_false_iff_ne]
  intro e
  have := adBytes_kind l t k a b c m
  rw [e, adBytes_kind] at this
  exact h (by simpa using this.symm)
end Go.Proofs.Ytebdehhamjlbpaa
