/-
  Parts: LtA WeA WeB WeC WeD WeE WeF ChX WeG.
-/
import Derived.Test.YtipdmhppadapkaaGreatDoorBE
import Derived.Test.YtipdmhppadapkaaGreatDoorBA
/-
  Trees of nodes, plain: a level joined; the leaf of a key; the way to the root; the neighbours of a leaf. WOTS+ keys, plain.
-/
namespace Go.Proofs.YtipdmhppadapkaaGreatDoor
open Go.RowKit Sha

abbrev Nd := List UInt8
/-- the k-th node of a list -/
def at_ (l : List Nd) (k : Nat) : Nd := l[k]?.getD []
theorem at_get (l : List Nd) (k : Nat) (h : k < l.length) : at_ l k = l[k] := by simp [at_, h]
def All32 (l : List Nd) : Prop := ∀ x ∈ l, x.length = 32
theorem All32.at_ {l : List Nd} (h : All32 l) {k : Nat} (hk : k < l.length) : (at_ l k).length = 32 := by rw [at_get l k hk]; exact h _ (List.getElem_mem hk)
theorem all32_upto {f : Nat → Nd} (h : ∀ i, (f i).length = 32) (n : Nat) : All32 (upto f n) := by
  intro x hx
  simp only [upto, List.mem_map] at hx
  obtain ⟨i, _, rfl⟩ := hx
  exact h i

/-! ### WOTS+ -/
def pubN (sig : List Nd) (m sd : Nd) (leaf i : Nat) : Nd := chainN sd leaf i (digAll m i) (15 - digAll m i) (at_ sig i)
theorem pubN_length (sig : List Nd) (m sd : Nd) (leaf i : Nat) (h : (at_ sig i).length = 32) : (pubN sig m sd leaf i).length = 32 := chainN_length _ _ _ _ _ h _
/-! ### Levels -/
def upL (join : Nat → Nd → Nd → Nd) (l : List Nd) : List Nd := upto (fun i => join i (at_ l (2 * i)) (at_ l (2 * i + 1))) (l.length / 2) ++ l.drop (l.length / 2 * 2)
theorem upL_length (join : Nat → Nd → Nd → Nd) (l : List Nd) : (upL join l).length = (l.length + 1) / 2 := by
  simp only [upL, List.length_append, upto_length, List.length_drop]; omega
theorem upL_all (join : Nat → Nd → Nd → Nd) (l : List Nd) (hj : ∀ i a b, (join i a b).length = 32) (h : All32 l) : All32 (upL join l) := by
  intro x hx
  simp only [upL, List.mem_append] at hx
  rcases hx with hx | hx
  · exact all32_upto (fun i => hj i _ _) _ x hx
  · exact h x (List.mem_of_mem_drop hx)

/-- level by level, until one is left -/
def leafV (jh : Nat → Nat → Nd → Nd → Nd) : Nat → Nat → List Nd → Nd
  | 0, _, l => at_ l 0
  | f + 1, h, l => if l.length ≤ 1 then at_ l 0 else leafV jh f (h + 1) (upL (jh h) l)
theorem leafV_one (jh : Nat → Nat → Nd → Nd → Nd) (f h : Nat) (l : List Nd) (hl : l.length ≤ 1) : leafV jh f h l = at_ l 0 := by
  cases f <;> simp [leafV, hl]
theorem leafV_step (jh : Nat → Nat → Nd → Nd → Nd) (f h : Nat) (l : List Nd) (hl : 2 ≤ l.length) : leafV jh (f + 1) h l = leafV jh f (h + 1) (upL (jh h) l) := by
  rw [leafV, if_neg (by omega)]
theorem leafV_length (jh : Nat → Nat → Nd → Nd → Nd) (hj : ∀ h i a b, (jh h i a b).length = 32) : ∀ (f h : Nat) (l : List Nd), All32 l → 1 ≤ l.length → (leafV jh f h l).length = 32
  | 0, h, l, hl, h1 => hl.at_ h1
  | f + 1, h, l, hl, h1 => by
    rw [leafV]
    split
    · exact hl.at_ h1
    · exact leafV_length jh hj f (h + 1) _ (upL_all _ _ (hj h) hl) (by rw [upL_length]; omega)

def ltreeAd (a h i : Nat) : Ad := ⟨0, 0, 1, a, h, i, 0⟩
def treeAd (h i : Nat) : Ad := ⟨0, 0, 2, 0, h, i, 0⟩
theorem ltreeAd_ok {a b c : Nat} (ha : a < 4294967296) (hb : b < 4294967296) (hc : c < 4294967296) : (ltreeAd a b c).ok := ⟨by show 0 < _; omega, by show 0 < _; omega, by show 1 < _; omega, ha, hb, hc, by show 0 < _; omega⟩
theorem treeAd_ok {b c : Nat} (hb : b < 4294967296) (hc : c < 4294967296) : (treeAd b c).ok := ⟨by show 0 < _; omega, by show 0 < _; omega, by show 2 < _; omega, by show 0 < _; omega, hb, hc, by show 0 < _; omega⟩
def joinL (sd : Nd) (leaf h i : Nat) (a b : Nd) : Nd := randH a b sd (ltreeAd leaf h i)
/-- the leaf of a key's nodes -/
def ltLeaf (sd : Nd) (leaf : Nat) (pk : List Nd) : Nd := if pk.length = 0 ∨ 1000 < pk.length then znode else leafV (joinL sd leaf) pk.length 0 pk
theorem ltLeaf_length (sd : Nd) (leaf : Nat) (pk : List Nd) (h : All32 pk) : (ltLeaf sd leaf pk).length = 32 := by
  unfold ltLeaf
  split
  · simp [znode]
  · exact leafV_length _ (fun _ _ _ _ => keyed_length _ _) _ _ _ h (by omega)

/-! ### The way to the root -/
def rootStep (sd : Nd) (idx k : Nat) (n a : Nd) : Nd := if idx / 2 ^ k % 2 = 0 then randH n a sd (treeAd k (idx / 2 ^ (k + 1))) else randH a n sd (treeAd k (idx / 2 ^ (k + 1)))
theorem rootStep_length (sd : Nd) (idx k : Nat) (n a : Nd) : (rootStep sd idx k n a).length = 32 := by unfold rootStep; split <;> exact keyed_length _ _
def rootN (sd leaf : Nd) (idx : Nat) (auth : List Nd) : Nat → Nd
  | 0 => leaf
  | k + 1 => rootStep sd idx k (rootN sd leaf idx auth k) (at_ auth k)
theorem rootN_length (sd leaf : Nd) (idx : Nat) (auth : List Nd) (h : leaf.length = 32) : ∀ k, (rootN sd leaf idx auth k).length = 32
  | 0 => h
  | _ + 1 => rootStep_length _ _ _ _ _
def rootV (sd leaf : Nd) (idx : Nat) (auth : List Nd) : Nd := if 32 < auth.length then znode else rootN sd leaf idx auth auth.length
theorem rootV_length (sd leaf : Nd) (idx : Nat) (auth : List Nd) (h : leaf.length = 32) : (rootV sd leaf idx auth).length = 32 := by
  unfold rootV
  split
  · simp [znode]
  · exact rootN_length _ _ _ _ h _

/-! ### The neighbours of a leaf -/
end Go.Proofs.YtipdmhppadapkaaGreatDoor
/-
  Walk: wots.each: a node for each of the 67 chains, by a function value.
-/
namespace Go.Proofs.YtipdmhppadapkaaGreatDoor
open Go.RowKit Sha

section
variable {P : Program} {ops : Array Oper} {rest : List Oper} {o : Oper} {a : Act} {Q : Exit → Act → World → Prop}
/-- a call of a function value -/
theorem wpList_callF {w : World} {f : FuncId} {fn : Func} {c : Code} {x : Tmp} {args : Array Operand} {tys : Array TypeId} {caps vals : Array Value} {R : Ending → World → Prop} (hgd : o.guard = none)
    (ho : o.op = .call { callee := .value (.tmp x), args := args, argTypes := tys }) (hx : a.tmps[x]?.getD undef = .func (.func f) #[] caps) (hf : P.funcs[f]? = some fn) (hb : fn.body = some c) (hname : (fn.name == "runtime.NumGoroutine") = false)
    (hv : args.map a.eval ++ caps = vals) (h : Calls P f vals w R) (hR : ∀ e w', R e w' → ∃ v, e = .returned v ∧ wpList P ops Q rest (a.put o.dst v) w') : wpList P ops Q (o :: rest) a w := by
  refine wpList_plain hgd fun K hK => ?_
  have h1 : fn.name ≠ "runtime.NumGoroutine" := by simpa using hname
  have hrun : (execOp a.eval o).run P w = .ok (.enter f vals) w := by
    simp [execOp, ho, resolve, Act.eval, hx, Deferred.ofValue, invoke, callFunc, hf, h1, hb]
    exact hv
  unfold Oper.wp
  rw [hrun]
  refine Calls.mono h fun e w' hr => ?_
  obtain ⟨v, rfl, h2⟩ := hR e w' hr
  exact hK _ _ h2
end
section
variable {P : Program} {ops : Array Oper} {rest : List Oper} {a : Act} {w : World} {Q : Exit → Act → World → Prop} {dst : Option Tmp} {ty : TypeId} {pos : String} {aft : Array Edge} {gd : Option (Nat × Bool)}
theorem at_callF (x : Tmp) {args : Array Operand} {tys : Array TypeId} (h : wpList P ops Q (⟨dst, .call ⟨.value (.tmp x), args, tys⟩, ty, pos, aft, gd⟩ :: rest) a w) : wpList P ops Q (⟨dst, .call ⟨.value (.tmp x), args, tys⟩, ty, pos, aft, gd⟩ :: rest) a w := h
theorem at_makeSlice (t : TypeId) {n c : Operand} (h : wpList P ops Q (⟨dst, .makeSlice t n c, ty, pos, aft, gd⟩ :: rest) a w) : wpList P ops Q (⟨dst, .makeSlice t n c, ty, pos, aft, gd⟩ :: rest) a w := h
end

theorem elNz : Elem Tryz.prog 100 39 (.agg zn) 32 32 := Elem.of (by kernel_rfl) (by kernel_rfl) rfl (by omega)
/-- k nodes are laid, the rest is zero -/
def eachRow (N : Nat → Nd) (k : Nat) : Array Value := (ncells (upto N k) ++ List.replicate ((67 - k) * 32) (Value.int .u8 0)).toArray
theorem eachRow_size (N : Nat → Nd) (h : ∀ i, (N i).length = 32) (k : Nat) (hk : k ≤ 67) : (eachRow N k).size = 2144 := by
  rw [eachRow, List.size_toArray, List.length_append, ncells_length _ (all32_upto h k), upto_length, List.length_replicate]; omega
theorem zn_get (k : Nat) (h : k < 32) : zn[k]! = .int .u8 0 := by
  have hs : k < zn.size := h
  rw [getElem!_pos zn k hs]
  unfold zn bcells znode
  simp only [List.map_replicate, List.getElem_toArray, List.getElem_replicate]
  rfl
theorem madeNodes (n : Nat) : madeCells (Value.agg zn).cells n = (List.replicate n (Value.int .u8 0)).toArray := by
  apply Array.ext
  · simp [madeCells]
  · intro k h1 h2
    simp only [madeCells, Array.getElem_map, Array.getElem_range, List.getElem_toArray, List.getElem_replicate]
    exact zn_get _ (Nat.mod_lt _ (by decide))
theorem eachRow_zero (N : Nat → Nd) : madeCells (Value.agg zn).cells (67 * 32) = eachRow N 0 := by
  rw [madeNodes, eachRow, Nat.sub_zero]
  rfl
theorem eachRow_set (N : Nat → Nd) (h : ∀ i, (N i).length = 32) (k : Nat) (hk : k < 67) : (splice (eachRow N k).toList (k * 32) (bcells (N k)).toArray.toList).toArray = eachRow N (k + 1) := by
  have hl : (ncells (upto N k)).length = k * 32 := by rw [ncells_length _ (all32_upto h k), upto_length]
  simp only [eachRow, splice]
  rw [List.take_left' hl, bcells_length, h k, ← List.drop_drop, List.drop_left' hl, upto_succ, ncells_snoc, List.drop_replicate, show (67 - k) * 32 - 32 = (67 - (k + 1)) * 32 by omega]
  simp only [List.append_assoc]

set_option maxRecDepth 100000 in
set_option maxHeartbeats 2000000 in
theorem each_any (K : FuncId) (fn : Func) (c : Code) (hf : Tryz.prog.funcs[K]? = some fn) (hb : fn.body = some c) (hname : (fn.name == "runtime.NumGoroutine") = false) (caps : Array Value) (N : Nat → Nd) (hN : ∀ i, (N i).length = 32) (w : World)
    (hcall : ∀ i : Nat, i < 67 → ∀ W, Below w.heap.size w W → Calls Tryz.prog K (#[Value.int .i64 (i : Int)] ++ caps) W fun e w' => e = .returned (.agg (bcells (N i)).toArray) ∧ Below W.heap.size W w') :
    Calls Tryz.prog 116 #[.func (.func K) #[] caps] w fun e w' => e = .returned (.slice (some ⟨w.heap.size, 0, none⟩) 67 67) ∧ Blk w' w.heap.size 39 (ncells (upto N 67)).toArray ∧ Below w.heap.size w w' := by
  have HN := Lib.hid hN
  have Hf := Lib.hid hf
  have Hb := Lib.hid hb
  have Hname := Lib.hid hname
  have Hcall := Lib.hid hcall
  clear hN hf hb hname hcall
  go_enter Tryz.func116, Tryz.ntmps116
  go_wp2_with ((with_reducible refine at_makeSlice 100 ?_); refine wpList_makeN w elNz rfl _ _ rfl .i64 .i64 67 67 67 67 rfl rfl rfl rfl (Nat.le_refl _) (by omega) (by omega) ?_; intro w1 hb1 hs1 hB1)
  rw [eachRow_zero N] at hb1
  clear hs1
  go_loopw [8] (fun i wr => ∃ k : Nat, k ≤ 67 ∧ i = .int .i64 k ∧ Blk wr w.heap.size 39 (eachRow N k) ∧ Below w.heap.size w wr) (fun i _ => 67 - (intOf i).toNat)
  case atStart => exact ⟨0, by omega, rfl, hb1, hB1⟩
  case round =>
    clear hb1 hB1
    obtain ⟨k, hk, rfl, hA, hB⟩ := hrel
    by_cases hlt : k < 67
    · go_wp2_with (first
        | ((with_reducible refine at_callF 13 ?_); refine wpList_callF (vals := #[Value.int .i64 (k : Int)] ++ caps) rfl rfl rfl Hf.out Hb.out Hname.out (by simp [Act.eval]) (Hcall.out k hlt wr hB) ?_; rintro e w5 ⟨rfl, hB5⟩; refine ⟨_, rfl, ?_⟩; have hA5 := hA.below hB5 hA.lt; have hBr := hB.trans (hB5.mono hB.size))
        | ((with_reducible refine at_store 39 ?_); refine wpList_storeBlk w5 rfl 39 _ _ rfl w.heap.size (k * 32) 39 (eachRow N k) (bcells (N k)).toArray hA5 rfl rfl (by rw [eachRow_size N HN.out k hk, List.size_toArray, bcells_length, HN.out]; omega) (by rw [List.size_toArray, bcells_length, HN.out]; kernel_rfl) (fun v hv => bcells_one _ v (by simpa using hv)) ?_; intro w6 h6 hg6 hs6; rw [eachRow_set N HN.out k hlt] at h6))
      have hB6 : Below w.heap.size w w6 := grown_below hBr hg6 hBr.size (Nat.le_refl _)
      clear hA hB hB5 hA5 hBr hg6 hs6
      go_roundw
      case rel => exact ⟨k + 1, by omega, by go_num, h6, hB6⟩
      case measure => simp [intOf]; omega
    · obtain rfl : k = 67 := by omega
      go_wp2
      go_ret
      refine ⟨rfl, ?_, hB⟩
      have e : eachRow N 67 = (ncells (upto N 67)).toArray := by simp [eachRow]
      rw [← e]; exact hA
end Go.Proofs.YtipdmhppadapkaaGreatDoor
/-
  Walks: wots.Secret; the functions of a chain that wots.Public, Key and Sign hand on.
-/
namespace Go.Proofs.YtipdmhppadapkaaGreatDoor
open Go.RowKit Sha

theorem dig_cell (m : List UInt8) (i : Nat) (hi : i < 67) : (icells (wdigs m)).toArray[i]? = some (.int .i64 (digAll m i : Nat)) := by
  simp [icells, wdigs, upto, hi]

set_option maxRecDepth 100000 in
set_option maxHeartbeats 2000000 in
theorem public1_any (gs gd gv gi : Nat) (A : Option Addr) (c : Nat) (ns : List Nd) (h32 : All32 ns) (h67 : ns.length = 67) (m sd : Nd) (hsd : sd.length = 32) (leaf i : Nat) (hi : i < 67) (w : World)
    (hS0 : Blk w gs 100 #[.slice A 67 c]) (hR : Rd w w.heap.size 32 A 67 (ncells ns)) (hD0 : Blk w gd 164 (icells (wdigs m)).toArray) (hV0 : Blk w gv 39 (bcells sd).toArray) (hI0 : Blk w gi 23 #[.int .u32 (leaf : Int)]) (hT : Tabs w) :
    Calls Tryz.prog 117 #[.int .i64 (i : Int), .pointer (some ⟨gs, 0, none⟩), .pointer (some ⟨gd, 0, none⟩), .pointer (some ⟨gv, 0, none⟩), .pointer (some ⟨gi, 0, none⟩)] w fun e w' =>
      e = .returned (.agg (bcells (pubN ns m sd leaf i)).toArray) ∧ Below w.heap.size w w' := by
  have hz := zeroNode
  obtain ⟨ab, ao, rfl, hab0, hrg⟩ := hR.range (by omega)
  have hip : i < ns.length := by omega
  have hx0 := range_node hrg h32 i hip
  have hxl := h32 _ (List.getElem_mem hip)
  obtain ⟨x, hxe⟩ : ∃ x, x = ns[i] := ⟨_, rfl⟩
  obtain ⟨d, hd⟩ : ∃ d, d = digAll m i := ⟨_, rfl⟩
  have hd15 := digAll_lt m i
  have hdc := dig_cell m i hi
  have hpub : pubN ns m sd leaf i = chainN sd leaf i d (15 - d) x := by rw [pubN, at_get _ _ hip, hxe, hd]
  rw [← hxe] at hx0 hxl
  rw [← hd] at hd15 hdc
  obtain ⟨S, hSe⟩ : ∃ S, S = chainN sd leaf i d (15 - d) x := ⟨_, rfl⟩
  rw [hpub, ← hSe]
  have HSl : Hid (S.length = 32) := Lib.hid (by rw [hSe]; exact chainN_length _ _ _ _ _ hxl _)
  have HS := Lib.hid hSe
  have sdL := Lib.hid hsd
  have xL := Lib.hid hxl
  have hdc := Lib.hid hdc
  have hsub : IntKind.i64.wrap (15 - (d : Int)) = ((15 - d : Nat) : Int) := by rw [IntKind.wrap_i64]; omega
  have hTl := hT.first.lt
  have hTl2 := hT.rounds.lt
  have hSl := hS0.lt
  have hDl := hD0.lt
  have hVl := hV0.lt
  have hIl := hI0.lt
  have hS := (hS0.alloc (.cells zn 39)).drew
  have hD := (hD0.alloc (.cells zn 39)).drew
  have hV := (hV0.alloc (.cells zn 39)).drew
  have hI := (hI0.alloc (.cells zn 39)).drew
  have hN := (Blk.new w 39 zn).drew
  have hBw0 : Below w.heap.size w (w.alloc (.cells zn 39)) := (Below.refl _ _).alloc (Nat.le_refl _) _
  have hT0 := (hT.alloc (.cells zn 39)).drew
  have hx := hx0.later hBw0 hab0
  have hab := hab0
  clear hxe hSe hx0 hxl hpub hd hR hrg hS0 hD0 hV0 hI0 hT hsd h32 hip h67
  go_enter Tryz.func117, Tryz.ntmps117
  go_wp2_with fail
  generalize w.alloc (.cells zn 39) = W0 at *
  have hsz : w.heap.size ≤ W0.drew.heap.size := Nat.le_of_lt hN.lt
  have hx : W0.drew.rangeAt ab (ao + i * 32) (bcells x) := hx
  clear hz
  refine Flow.wp_region_flow (w.heap.size) [(15, fun b => b = w.heap.size)] [(15, fun W => Blk W (w.heap.size) 39 (zn))] (by kernel_rfl) (by kernel_rfl) hsz (Flow.nz_cons (by rintro b rfl; exact Nat.le_refl _) Flow.nz_nil) (Flow.facts_cons (hN) (Flow.kept_blk id) (Flow.fz_cons (Flow.no_follow (by kernel_rfl)) Flow.fz_nil) Flow.facts_nil) ?_
  refine Flow.pass_val (.slice (some ⟨ab, ao, none⟩) 67 c) (Flow.met_none rfl) (fun a W hH => ?_) ?_
  · have e0 := Flow.see_old 1 hH.sees (by kernel_rfl) (by kernel_rfl) rfl
    have cc : World.cell? W ⟨gs, 0, none⟩ = some (.slice (some ⟨ab, ao, none⟩) 67 c) := ((hS.below hH.below hSl).cell 0).trans rfl; go_simp
  refine Flow.pass_old (X := .int .i64 (i : Nat)) 0 (Flow.met_none rfl) (.inl rfl) (by kernel_rfl) (by kernel_rfl) rfl ?_
  refine Flow.pass_val (.pointer (some ⟨ab, ao + i * 32, none⟩)) (Flow.met_none rfl) (fun a W hH => ?_) ?_
  · have e0 := Flow.see_new 7 0 hH.sees (by kernel_rfl) (by kernel_rfl) rfl rfl
    have e1 := Flow.see_new 8 1 hH.sees (by kernel_rfl) (by kernel_rfl) rfl rfl
    have hi2 : (i : Int) < 67 := (by omega); go_simp
  refine Flow.pass_val (.agg (bcells x).toArray) (Flow.met_none rfl) (fun a W hH => ?_) ?_
  · have e0 := Flow.see_new 9 2 hH.sees (by kernel_rfl) (by kernel_rfl) rfl rfl
    exact reg_loadRange 39 _ rfl e0 (hx.later hH.below hab) Tryz.underlying39 rfl (by rw [List.size_toArray, bcells_length, xL.out]; exact infNode)
  refine Flow.pass_old (X := .int .i64 (i : Nat)) 0 (Flow.met_none rfl) (.inl rfl) (by kernel_rfl) (by kernel_rfl) rfl ?_
  refine Flow.pass_val (.pointer (some ⟨gd, i, none⟩)) (Flow.met_none rfl) (fun a W hH => ?_) ?_
  · have e0 := Flow.see_old 2 hH.sees (by kernel_rfl) (by kernel_rfl) rfl
    have e1 := Flow.see_new 11 4 hH.sees (by kernel_rfl) (by kernel_rfl) rfl rfl
    exact reg_ixA (s := 1) i _ rfl Tryz.underlying164 (by kernel_rfl) (by simpa [Act.eval] using e0) (by simpa [Act.eval] using e1) (by first | rfl | omega) (by omega) (by first | rfl | simp | omega)
  refine Flow.pass_val (.int .i64 (d : Int)) (Flow.met_none rfl) (fun a W hH => ?_) ?_
  · have e0 := Flow.see_new 12 5 hH.sees (by kernel_rfl) (by kernel_rfl) rfl rfl
    have cc : World.cell? W ⟨gd, i, none⟩ = some (.int .i64 (d : Int)) := ((hD.below hH.below hDl).cell i).trans hdc.out; go_simp
  refine Flow.pass_old (X := .int .i64 (i : Nat)) 0 (Flow.met_none rfl) (.inl rfl) (by kernel_rfl) (by kernel_rfl) rfl ?_
  refine Flow.pass_val (.pointer (some ⟨gd, i, none⟩)) (Flow.met_none rfl) (fun a W hH => ?_) ?_
  · have e0 := Flow.see_old 2 hH.sees (by kernel_rfl) (by kernel_rfl) rfl
    have e1 := Flow.see_new 14 7 hH.sees (by kernel_rfl) (by kernel_rfl) rfl rfl
    exact reg_ixA (s := 1) i _ rfl Tryz.underlying164 (by kernel_rfl) (by simpa [Act.eval] using e0) (by simpa [Act.eval] using e1) (by first | rfl | omega) (by omega) (by first | rfl | simp | omega)
  refine Flow.pass_val (.int .i64 (d : Int)) (Flow.met_none rfl) (fun a W hH => ?_) ?_
  · have e0 := Flow.see_new 15 8 hH.sees (by kernel_rfl) (by kernel_rfl) rfl rfl
    have cc : World.cell? W ⟨gd, i, none⟩ = some (.int .i64 (d : Int)) := ((hD.below hH.below hDl).cell i).trans hdc.out; go_simp
  refine Flow.pass_val (.int .i64 ((15 - d : Nat) : Int)) (Flow.met_none rfl) (fun a W hH => ?_) ?_
  · have e0 := Flow.see_new 16 9 hH.sees (by kernel_rfl) (by kernel_rfl) rfl rfl
    go_simp; first | done | rfl | rw [hsub]
  refine Flow.pass_val (.agg (bcells sd).toArray) (Flow.met_none rfl) (fun a W hH => ?_) ?_
  · have e0 := Flow.see_old 3 hH.sees (by kernel_rfl) (by kernel_rfl) rfl
    exact reg_load 39 _ rfl e0 (hV.below hH.below hVl) Tryz.underlying39 rfl (by rw [List.size_toArray, bcells_length, sdL.out]; exact infNode)
  refine Flow.pass_val (.int .u32 (leaf : Int)) (Flow.met_none rfl) (fun a W hH => ?_) ?_
  · have e0 := Flow.see_old 4 hH.sees (by kernel_rfl) (by kernel_rfl) rfl
    have cc : World.cell? W ⟨gi, 0, none⟩ = some (.int .u32 (leaf : Int)) := ((hI.below hH.below hIl).cell 0).trans rfl; go_simp
  refine Flow.pass_old (X := .int .i64 (i : Nat)) 0 (Flow.met_none rfl) (.inl rfl) (by kernel_rfl) (by kernel_rfl) rfl ?_
  refine Flow.pass_step (Reg.eqs (.agg (bcells S).toArray)) (fun _ _ => Flow.kept_eqs _ _) (Flow.met_none rfl) (fun a W hH => ?_) ?_
  · have e0 := Flow.see_new 10 3 hH.sees (by kernel_rfl) (by kernel_rfl) rfl rfl
    have e1 := Flow.see_new 13 6 hH.sees (by kernel_rfl) (by kernel_rfl) rfl rfl
    have e2 := Flow.see_new 17 10 hH.sees (by kernel_rfl) (by kernel_rfl) rfl rfl
    have e3 := Flow.see_new 18 11 hH.sees (by kernel_rfl) (by kernel_rfl) rfl rfl
    have e4 := Flow.see_new 19 12 hH.sees (by kernel_rfl) (by kernel_rfl) rfl rfl
    have e5 := Flow.see_new 20 13 hH.sees (by kernel_rfl) (by kernel_rfl) rfl rfl
    refine Reg.wp_call rfl Tryz.func118 rfl (by kernel_rfl) (by simp [Act.eval, e0, e1, e2, e3, e4, e5]) (mchain_any x sd xL.out sdL.out leaf d (15 - d) i (by omega) (by omega) W (hT0.under hH.below (by omega) (by omega))) ?_
    rintro e w' ⟨rfl, hB⟩
    rw [← HS.out]
    exact ⟨_, rfl, _, rfl, hB, rfl⟩
  refine Flow.pass_list (fun _ W => Blk W (w.heap.size) 39 (bcells S).toArray) (Flow.kept_of (fun _ _ _ c h => h.chg c id) (Flow.kz_cons (Flow.no_follow (by kernel_rfl)) Flow.kz_nil)) (Flow.met_none rfl) (fun a W hH => ?_) ?_
  · have e0 := Flow.see_old 6 hH.sees (by kernel_rfl) (by kernel_rfl) rfl
    have e1 := Flow.see_new 21 14 hH.sees (by kernel_rfl) (by kernel_rfl) rfl rfl
    have fa0 : (fun W => Blk W (w.heap.size) 39 (zn)) W := hH.fact _ (List.mem_of_getElem? (i := 0) rfl) rfl
    refine wpList_storeAll W rfl 39 _ _ rfl (w.heap.size) 39 _ (bcells S).toArray fa0 (by simpa [Act.eval] using e0) (by simpa [Act.eval] using e1) (by rw [List.size_toArray, bcells_length, HSl.out]; kernel_rfl) (by rw [List.size_toArray, bcells_length, HSl.out]; kernel_rfl) (fun v hv => bcells_one _ v (by simpa using hv)) ?_
    intro W2 h2 hg _
    exact Flow.qq_nil ⟨_, rfl, Chg.grown hg (by rintro k h; cases h; rfl), h2⟩
  refine Flow.pass_end [none, none, none, none, none, none, none, some 7, some 8, some 9, some 10, some 11, some 12, some 13, some 14, some 15, some 16, some 17, some 18, some 19, some 20, some 21] (by kernel_rfl) ?_
  intro f g w9 hB9 hfa hT2 hfg
  have h4 := hT2 15 _ (by kernel_rfl) rfl
  have hBw9 := hBw0.drew.trans (hB9.mono (by omega))
  clear hfa hT2 hfg hBw0 hB9
  simp only [Reg.sel]
  go_wp2
  refine bodyPost_ret (results_cell_row rfl _ _ w.heap.size _ _ _ _ rfl h4 Tryz.underlying39 rfl (by rw [List.size_toArray, bcells_length, HSl.out]; kernel_rfl)) rfl ⟨rfl, hBw9⟩

end Go.Proofs.YtipdmhppadapkaaGreatDoor
/-
  Walks: wots.Public, wots.Key, wots.Sign.
-/
namespace Go.Proofs.YtipdmhppadapkaaGreatDoor
open Go.RowKit Sha

/-- a slice of nodes in memory of the call's own -/
def NodesRet (w : World) (ns : List Nd) (e : Ending) (w' : World) : Prop := ∃ A c, e = .returned (.slice A ns.length c) ∧ ns.length ≤ c ∧ Rd w' w'.heap.size 32 A ns.length (ncells ns) ∧ Below w.heap.size w w'
theorem nodesRet_nil {w w' : World} (h : Below w.heap.size w w') : NodesRet w [] (.returned (.slice none 0 0)) w' := ⟨none, 0, rfl, Nat.le_refl _, Rd.nil _ _ _ _, h⟩
theorem nodesRet_blk {w w' : World} {g : Nat} {N : Nat → Nd} (hN : ∀ i, (N i).length = 32) (hb : Blk w' g 39 (ncells (upto N 67)).toArray) (h : Below w.heap.size w w') :
    NodesRet w (upto N 67) (.returned (.slice (some ⟨g, 0, none⟩) 67 67)) w' := by
  have hl : (upto N 67).length = 67 := upto_length _ _
  refine ⟨some ⟨g, 0, none⟩, 67, by rw [hl], by rw [hl]; exact Nat.le_refl _, ?_, h⟩
  rw [hl]
  have := hb.rd (size := 32) (n := 67) (by rw [List.size_toArray, ncells_length _ (all32_upto hN _), hl])
  simpa using this

def pubsV (ns : List Nd) (m sd : Nd) (leaf : Nat) : List Nd := if ns.length = 67 then upto (pubN ns m sd leaf) 67 else []
theorem pubN32 {ns : List Nd} (h32 : All32 ns) (m sd : Nd) (leaf : Nat) {i : Nat} (hi : i < ns.length) : (pubN ns m sd leaf i).length = 32 := pubN_length _ _ _ _ _ (h32.at_ hi)
/-- beyond the chains: any node -/
def pubF (ns : List Nd) (m sd : Nd) (leaf i : Nat) : Nd := if i < 67 then pubN ns m sd leaf i else znode
theorem pubF_length {ns : List Nd} (h32 : All32 ns) (h67 : ns.length = 67) (m sd : Nd) (leaf i : Nat) : (pubF ns m sd leaf i).length = 32 := by
  unfold pubF
  split
  · exact pubN32 h32 m sd leaf (by omega)
  · simp [znode]
theorem pubF_upto (ns : List Nd) (m sd : Nd) (leaf : Nat) : upto (pubF ns m sd leaf) 67 = upto (pubN ns m sd leaf) 67 := by
  unfold upto
  apply List.map_congr_left
  intro i hi
  have : i < 67 := by simpa using hi
  simp [pubF, this]
theorem digs_one (m : Nd) : ∀ v ∈ (icells (wdigs m)).toArray.toList, v.oneCell' = true := fun v hv => icells_one _ v (by simpa using hv)
theorem digs_size (m : Nd) : (icells (wdigs m)).toArray.size = 67 := by rw [List.size_toArray, icells_length, wdigs_length67]
theorem inf67 : (Tryz.prog.info? 164).map (·.size) = some 67 := by kernel_rfl
theorem z67_size : (icells zeros67).toArray.size = 67 := by kernel_rfl

set_option maxRecDepth 100000 in
set_option maxHeartbeats 2000000 in
theorem mpublic_yes (A : Option Addr) (c : Nat) (ns : List Nd) (h32 : All32 ns) (h67 : ns.length = 67) (m : Nd) (hm : m.length = 32) (sd : Nd) (hsd : sd.length = 32) (leaf : Nat) (w : World) (hR : Rd w w.heap.size 32 A 67 (ncells ns)) (hT : Tabs w) :
    Calls Tryz.prog 78 #[.slice A 67 c, .agg (bcells m).toArray, .agg (bcells sd).toArray, .int .u32 (leaf : Int)] w (NodesRet w (upto (pubN ns m sd leaf) 67)) := by
  have H32 := Lib.hid h32
  have H67 := Lib.hid h67
  have mL := Lib.hid hm
  have sdL := Lib.hid hsd
  clear h32 h67 hm hsd
  have hS := (((Blk.new w 100 #[.slice A 67 c]).alloc (.cells (bcells m).toArray 39)).alloc (.cells (bcells sd).toArray 39)).alloc (.cells #[.int .u32 (leaf : Int)] 23)
  have hM := ((blk_new1 w (.cells #[.slice A 67 c] 100) 39 (bcells m).toArray).alloc (.cells (bcells sd).toArray 39)).alloc (.cells #[.int .u32 (leaf : Int)] 23)
  have hV := (blk_new2 w (.cells #[.slice A 67 c] 100) (.cells (bcells m).toArray 39) 39 (bcells sd).toArray).alloc (.cells #[.int .u32 (leaf : Int)] 23)
  have hI := blk_new3 w (.cells #[.slice A 67 c] 100) (.cells (bcells m).toArray 39) (.cells (bcells sd).toArray 39) 23 #[.int .u32 (leaf : Int)]
  have B0 : Below w.heap.size w ((((w.alloc (.cells #[.slice A 67 c] 100)).alloc (.cells (bcells m).toArray 39)).alloc (.cells (bcells sd).toArray 39)).alloc (.cells #[.int .u32 (leaf : Int)] 23)) :=
    ((((Below.refl _ _).alloc (Nat.le_refl _) _).alloc (by simp) _).alloc (by simp; omega) _).alloc (by simp; omega) _
  have hT0 := (((hT.alloc (.cells #[.slice A 67 c] 100)).alloc (.cells (bcells m).toArray 39)).alloc (.cells (bcells sd).toArray 39)).alloc (.cells #[.int .u32 (leaf : Int)] 23)
  clear hT
  go_enter Tryz.func78, Tryz.ntmps78
  go_wp2_with ((with_reducible refine at_load 39 ?_); refine wpList_loadAll _ rfl 39 _ rfl (w.heap.size + 1) 39 (bcells m).toArray hM _ rfl Tryz.underlying39 rfl (by rw [List.size_toArray, bcells_length, mL.out]; exact infNode) ?_)
  generalize (((w.alloc (.cells #[.slice A 67 c] 100)).alloc (.cells (bcells m).toArray 39)).alloc (.cells (bcells sd).toArray 39)).alloc (.cells #[.int .u32 (leaf : Int)] 23) = W0 at *
  refine (mDigits_any m mL.out W0).mono ?_
  rintro e W1 ⟨rfl, hB1⟩
  have hS := hS.below hB1 hS.lt
  have hV := hV.below hB1 hV.lt
  have hI := hI.below hB1 hI.lt
  have B1 := B0.trans (hB1.mono B0.size)
  have hT1 := hT0.below hB1
  have hlt : w.heap.size + 3 < W1.heap.size := hI.lt
  clear hM B0 hB1 hT0
  go_wp2_with ((with_reducible refine at_store 164 ?_); refine wpList_storeAll _ rfl 164 _ _ rfl W1.heap.size 164 (icells zeros67).toArray (icells (wdigs m)).toArray (Blk.new W1 _ _) rfl rfl (by rw [digs_size, z67_size]) (by rw [digs_size]; exact inf67) (digs_one m) ?_; intro W2 hD hg2 hs2)
  have hC2 : Chg (fun b => b = W1.heap.size) W1 W2 := ((Chg.refl _ W1).alloc _).trans (Chg.grown hg2 (by rintro j h; cases h; rfl))
  have hS := hS.chg hC2 (show ¬ _ = W1.heap.size by omega)
  have hV := hV.chg hC2 (show ¬ _ = W1.heap.size by omega)
  have hI := hI.chg hC2 (show ¬ _ = W1.heap.size by omega)
  have B2 := B1.trans (hC2.below (n := w.heap.size) (fun b hb => by have hb : b = W1.heap.size := hb; omega) (by omega))
  have hTl := hT1.first.lt
  have hTl2 := hT1.rounds.lt
  have hT2 : Tabs W2 := ⟨hT1.first.chg hC2 (show ¬ _ = W1.heap.size by omega), hT1.rounds.chg hC2 (show ¬ _ = W1.heap.size by omega)⟩
  clear hT1 B1 hC2 hg2 hs2
  have hR2 := (hR.below B2).more B2.size
  generalize W1.heap.size = gd at *
  have hcall : Hid (∀ i : Nat, i < 67 → ∀ W, Below W2.heap.size W2 W → Calls Tryz.prog 117 (#[Value.int .i64 (i : Int)] ++ #[.pointer (some ⟨w.heap.size, 0, none⟩), .pointer (some ⟨gd, 0, none⟩), .pointer (some ⟨w.heap.size + 1 + 1, 0, none⟩), .pointer (some ⟨w.heap.size + 1 + 1 + 1, 0, none⟩)]) W fun e w' => e = .returned (.agg (bcells (pubF ns m sd leaf i)).toArray) ∧ Below W.heap.size W w') := Lib.hid fun i hi W hB => by
    have hp : pubF ns m sd leaf i = pubN ns m sd leaf i := by simp [pubF, hi]
    rw [hp]
    exact public1_any w.heap.size gd (w.heap.size + 2) (w.heap.size + 3) A c ns H32.out H67.out m sd sdL.out leaf i hi W (hS.below hB hS.lt) ((hR2.below hB).more hB.size) (hD.below hB hD.lt) (hV.below hB hV.lt) (hI.below hB hI.lt) (hT2.below hB)
  go_wp2_with fail
  refine (each_any 117 Tryz.f117 _ Tryz.func117 rfl (by kernel_rfl) _ (pubF ns m sd leaf) (pubF_length H32.out H67.out m sd leaf) W2 hcall.out).mono ?_
  rintro e W3 ⟨rfl, hG, hB3⟩
  have B3 := B2.trans (hB3.mono B2.size)
  have hret := nodesRet_blk (w := w) (pubF_length H32.out H67.out m sd leaf) hG B3
  rw [pubF_upto] at hret
  clear hS hV hI hD hT2 hR2 hcall hG hB3 B3 B2
  go_wp2
  go_ret
  exact hret

theorem mpublic_no (A : Option Addr) (n c : Nat) (hn : n ≠ 67) (m sd : Nd) (leaf : Nat) (w : World) :
    Calls Tryz.prog 78 #[.slice A n c, .agg (bcells m).toArray, .agg (bcells sd).toArray, .int .u32 (leaf : Int)] w (NodesRet w []) := by
  have B0 : Below w.heap.size w ((((w.alloc (.cells #[.slice A n c] 100)).alloc (.cells (bcells m).toArray 39)).alloc (.cells (bcells sd).toArray 39)).alloc (.cells #[.int .u32 (leaf : Int)] 23)) :=
    ((((Below.refl _ _).alloc (Nat.le_refl _) _).alloc (by simp) _).alloc (by simp; omega) _).alloc (by simp; omega) _
  have h1 : ((n : Int) != 67) = true := by simpa using (show ¬ (n : Int) = 67 by omega)
  have h2 : ¬ (n : Int) = 67 := by omega
  go_enter Tryz.func78, Tryz.ntmps78
  go_wp2
  go_ret
  exact nodesRet_nil B0
theorem mpublic_any (A : Option Addr) (n c : Nat) (ns : List Nd) (hn : n = ns.length) (h32 : All32 ns) (m : Nd) (hm : m.length = 32) (sd : Nd) (hsd : sd.length = 32) (leaf : Nat) (w : World) (hR : Rd w w.heap.size 32 A n (ncells ns)) (hT : Tabs w) :
    Calls Tryz.prog 78 #[.slice A n c, .agg (bcells m).toArray, .agg (bcells sd).toArray, .int .u32 (leaf : Int)] w (NodesRet w (pubsV ns m sd leaf)) := by
  subst hn
  unfold pubsV
  split
  · rename_i h
    have := mpublic_yes A c ns h32 h m hm sd hsd leaf w (by rw [← h]; exact hR) hT
    rw [h]; exact this
  · rename_i h
    exact mpublic_no A _ c h m sd leaf w

end Go.Proofs.YtipdmhppadapkaaGreatDoor
/-
  Walks: portreeveref04.Secret, Public and Ends; both Secrets at a chain that is none.
-/
namespace Go.Proofs.YtipdmhppadapkaaGreatDoor
open Go.RowKit Sha

theorem run_nodeS (w : World) (nd : List UInt8) (h : nd.length = 32) : (Instr.buildSlice 100 1 #[(0, .agg (bcells nd).toArray)]).run Tryz.prog w = .ok (.slice (some ⟨w.heap.size, 0, none⟩) 1 1) (w.alloc (.cells (bcells nd).toArray 39)) := by
  have := run_buildSlice_all (P := Tryz.prog) w elNz 1 #[(0, .agg (bcells nd).toArray)] [.agg (bcells nd).toArray] rfl rfl (by omega) (by omega) (by simp [Value.cells, bcells_length, h])
  simpa [flat, Value.cells] using this

end Go.Proofs.YtipdmhppadapkaaGreatDoor
/-
  Walks: portreeveref04.Public and Ends.
-/
namespace Go.Proofs.YtipdmhppadapkaaGreatDoor
open Go.RowKit Sha

theorem nodesRet_own {w w' : World} {g0 : Nat} {A : Option Addr} {n c : Nat} {ns : List Nd} (hn : n = ns.length) (ho : w'.ownsRow g0 39 32 (.slice A n c) n (ncells ns)) (h : Below w.heap.size w w') :
    NodesRet w ns (.returned (.slice A n c)) w' := by
  subst hn
  exact ⟨A, c, rfl, Flow.own_le ho, Rd.of_own ho, h⟩

set_option maxRecDepth 100000 in
set_option maxHeartbeats 4000000 in
theorem rpublic_yes (A0 : Option Addr) (c0 : Nat) (ns : List Nd) (h32 : All32 ns) (h67 : ns.length = 67) (m : Nd) (hm : m.length = 32) (sd : Nd) (hsd : sd.length = 32) (leaf : Nat) (hleaf : leaf < 4294967296) (w : World) (hR : Rd w w.heap.size 32 A0 67 (ncells ns)) :
    Calls Tryz.prog 48 #[.slice A0 67 c0, .agg (bcells m).toArray, .agg (bcells sd).toArray, .int .u32 (leaf : Int)] w (NodesRet w (upto (pubN ns m sd leaf) 67)) := by
  obtain ⟨ab, ao, rfl, hab0, hrg⟩ := hR.range (by omega)
  have H32 := Lib.hid h32
  have H67 := Lib.hid h67
  have mL := Lib.hid hm
  have sdL := Lib.hid hsd
  clear h32 h67 hm hsd hR
  have hM := (Blk.new w 39 (bcells m).toArray).alloc (.cells (bcells sd).toArray 39)
  have hV := blk_new1 w (.cells (bcells m).toArray 39) 39 (bcells sd).toArray
  have B0 : Below w.heap.size w ((w.alloc (.cells (bcells m).toArray 39)).alloc (.cells (bcells sd).toArray 39)) := ((Below.refl _ _).alloc (Nat.le_refl _) _).alloc (by simp) _
  go_enter Tryz.func48, Tryz.ntmps48
  go_wp2_with ((with_reducible refine at_load 39 ?_); refine wpList_loadAll _ rfl 39 _ rfl w.heap.size 39 (bcells m).toArray hM _ rfl Tryz.underlying39 rfl (by rw [List.size_toArray, bcells_length, mL.out]; exact infNode) ?_)
  generalize (w.alloc (.cells (bcells m).toArray 39)).alloc (.cells (bcells sd).toArray 39) = W0 at *
  refine (rDigits_any m mL.out W0).mono ?_
  rintro e W1 ⟨rfl, hB1⟩
  have hV := hV.below hB1 hV.lt
  have B1 := B0.trans (hB1.mono B0.size)
  have hlt : w.heap.size + 1 < W1.heap.size := hV.lt
  clear hM B0 hB1
  go_wp2_with ((with_reducible refine at_store 164 ?_); refine wpList_storeAll _ rfl 164 _ _ rfl W1.heap.size 164 (icells zeros67).toArray (icells (wdigs m)).toArray (Blk.new W1 _ _) rfl rfl (by rw [digs_size, z67_size]) (by rw [digs_size]; exact inf67) (digs_one m) ?_; intro W2 hD hg2 hs2)
  have hC2 : Chg (fun b => b = W1.heap.size) W1 W2 := ((Chg.refl _ W1).alloc _).trans (Chg.grown hg2 (by rintro j h; cases h; rfl))
  have hV := hV.chg hC2 (show ¬ _ = W1.heap.size by omega)
  have B2 := B1.trans (hC2.below (n := w.heap.size) (fun b hb => by have hb : b = W1.heap.size := hb; omega) (by omega))
  clear B1 hC2 hg2 hs2
  have hrg2 := hrg.later B2 hab0
  have hab : ab < W2.heap.size := Nat.lt_of_lt_of_le hab0 B2.size
  have hDl := hD.lt
  have hVl := hV.lt
  generalize W1.heap.size = gd at *
  obtain ⟨g0, hg0e⟩ : ∃ g0, g0 = W2.heap.size := ⟨_, rfl⟩
  rw [← hg0e] at hab hDl hVl
  have Hg0 := Lib.hid hg0e
  clear hg0e
  go_loopw [10, 19] (fun v i wr => ∃ (k : Nat) (A : Option Addr) (c : Nat), k ≤ 67 ∧ v = .slice A k c ∧ i = .int .i64 k ∧ wr.ownsRow g0 39 32 (.slice A k c) k (ncells (upto (pubN ns m sd leaf) k)) ∧ Below g0 W2 wr) (fun _ i _ => 67 - (intOf i).toNat)
  case atStart => exact ⟨0, none, 0, by omega, rfl, rfl, World.ownsRow_nil _ _ _ _, by rw [Hg0.out]; exact Below.refl _ _⟩
  case round =>
    obtain ⟨k, A, c, hk, rfl, rfl, hO, hBl⟩ := hrel
    have hgr : g0 ≤ wr.heap.size := by have := Hg0.out; have := hBl.size; omega
    by_cases hlt : k < 67
    · have hg0 : g0 ≤ wr.drew.heap.size := hgr
      have hip : k < ns.length := by have := H67.out; omega
      have hx := ((range_node hrg2 H32.out k hip).later hBl hab)
      have hxl := H32.out _ (List.getElem_mem hip)
      obtain ⟨x, hxe⟩ : ∃ x, x = ns[k] := ⟨_, rfl⟩
      obtain ⟨d, hd⟩ : ∃ d, d = digAll m k := ⟨_, rfl⟩
      have hd15 := digAll_lt m k
      have hdc := dig_cell m k hlt
      have hpub : pubN ns m sd leaf k = chainN sd leaf k d (15 - d) x := by rw [pubN, at_get _ _ hip, hxe, hd]
      rw [← hxe] at hx hxl
      rw [← hd] at hd15 hdc
      obtain ⟨S, hSe⟩ : ∃ S, S = chainN sd leaf k d (15 - d) x := ⟨_, rfl⟩
      have HSl : Hid (S.length = 32) := Lib.hid (by rw [hSe]; exact chainN_length _ _ _ _ _ hxl _)
      have HS := Lib.hid hSe
      have HU : Hid (upto (pubN ns m sd leaf) (k + 1) = upto (pubN ns m sd leaf) k ++ [S]) := Lib.hid (by rw [upto_succ, hpub, hSe])
      have xL := Lib.hid hxl
      have hdc := Lib.hid hdc
      have hsub : IntKind.i64.wrap (15 - (d : Int)) = ((15 - d : Nat) : Int) := by rw [IntKind.wrap_i64]; omega
      have hD9 := (hD.below hBl hDl).drew
      have hV9 := (hV.below hBl hVl).drew
      have hx : wr.drew.rangeAt ab (ao + k * 32) (bcells x) := hx
      clear hxe hSe hxl hpub hd hip
      generalize upto (pubN ns m sd leaf) k = ns0 at *
      go_wp2_with fail
      refine Flow.wp_region_flow (g0) [(17, fun b => (Value.slice A k c).ownBlock = some b)] [(17, fun W => W.ownsRow g0 39 32 (.slice A k c) k (ncells ns0))] (by kernel_rfl) (by kernel_rfl) hg0 (Flow.nz_cons (fun b hb => (own_some hO hb).1) Flow.nz_nil) (Flow.facts_cons (hO.drew) (Flow.kept_own (fun _ _ => id)) (Flow.fz_cons (Flow.no_follow (by kernel_rfl)) Flow.fz_nil) Flow.facts_nil) ?_
      refine Flow.pass_old 10 (Flow.met_none rfl) (.inl rfl) (by kernel_rfl) (by kernel_rfl) rfl ?_
      refine Flow.pass_old (X := .slice (some ⟨ab, ao, none⟩) 67 c0) 0 (Flow.met_none rfl) (.inl rfl) (by kernel_rfl) (by kernel_rfl) rfl ?_
      refine Flow.pass_old (X := .int .i64 (k : Nat)) 11 (Flow.met_none rfl) (.inl rfl) (by kernel_rfl) (by kernel_rfl) rfl ?_
      refine Flow.pass_val (.pointer (some ⟨ab, ao + k * 32, none⟩)) (Flow.met_none rfl) (fun a W hH => ?_) ?_
      · have e0 := Flow.see_new 23 1 hH.sees (by kernel_rfl) (by kernel_rfl) rfl rfl
        have e1 := Flow.see_new 24 2 hH.sees (by kernel_rfl) (by kernel_rfl) rfl rfl
        have hi2 : (k : Int) < 67 := (by omega); go_simp
      refine Flow.pass_val (.agg (bcells x).toArray) (Flow.met_none rfl) (fun a W hH => ?_) ?_
      · have e0 := Flow.see_new 25 3 hH.sees (by kernel_rfl) (by kernel_rfl) rfl rfl
        exact reg_loadRange 39 _ rfl e0 (hx.later hH.below hab) Tryz.underlying39 rfl (by rw [List.size_toArray, bcells_length, xL.out]; exact infNode)
      refine Flow.pass_old (X := .int .i64 (k : Nat)) 11 (Flow.met_none rfl) (.inl rfl) (by kernel_rfl) (by kernel_rfl) rfl ?_
      refine Flow.pass_val (.pointer (some ⟨gd, k, none⟩)) (Flow.met_none rfl) (fun a W hH => ?_) ?_
      · have e0 := Flow.see_old 9 hH.sees (by kernel_rfl) (by kernel_rfl) rfl
        have e1 := Flow.see_new 27 5 hH.sees (by kernel_rfl) (by kernel_rfl) rfl rfl
        exact reg_ixA (s := 1) k _ rfl Tryz.underlying164 (by kernel_rfl) (by simpa [Act.eval] using e0) (by simpa [Act.eval] using e1) (by first | rfl | omega) (by omega) (by first | rfl | simp | omega)
      refine Flow.pass_val (.int .i64 (d : Int)) (Flow.met_none rfl) (fun a W hH => ?_) ?_
      · have e0 := Flow.see_new 28 6 hH.sees (by kernel_rfl) (by kernel_rfl) rfl rfl
        have cc : World.cell? W ⟨gd, k, none⟩ = some (.int .i64 (d : Int)) := ((hD9.below hH.below hDl).cell k).trans hdc.out; go_simp
      refine Flow.pass_old (X := .int .i64 (k : Nat)) 11 (Flow.met_none rfl) (.inl rfl) (by kernel_rfl) (by kernel_rfl) rfl ?_
      refine Flow.pass_val (.pointer (some ⟨gd, k, none⟩)) (Flow.met_none rfl) (fun a W hH => ?_) ?_
      · have e0 := Flow.see_old 9 hH.sees (by kernel_rfl) (by kernel_rfl) rfl
        have e1 := Flow.see_new 30 8 hH.sees (by kernel_rfl) (by kernel_rfl) rfl rfl
        exact reg_ixA (s := 1) k _ rfl Tryz.underlying164 (by kernel_rfl) (by simpa [Act.eval] using e0) (by simpa [Act.eval] using e1) (by first | rfl | omega) (by omega) (by first | rfl | simp | omega)
      refine Flow.pass_val (.int .i64 (d : Int)) (Flow.met_none rfl) (fun a W hH => ?_) ?_
      · have e0 := Flow.see_new 31 9 hH.sees (by kernel_rfl) (by kernel_rfl) rfl rfl
        have cc : World.cell? W ⟨gd, k, none⟩ = some (.int .i64 (d : Int)) := ((hD9.below hH.below hDl).cell k).trans hdc.out; go_simp
      refine Flow.pass_val (.int .i64 ((15 - d : Nat) : Int)) (Flow.met_none rfl) (fun a W hH => ?_) ?_
      · have e0 := Flow.see_new 32 10 hH.sees (by kernel_rfl) (by kernel_rfl) rfl rfl
        go_simp; first | done | rfl | rw [hsub]
      refine Flow.pass_val (.agg (bcells sd).toArray) (Flow.met_none rfl) (fun a W hH => ?_) ?_
      · have e0 := Flow.see_old 6 hH.sees (by kernel_rfl) (by kernel_rfl) rfl
        exact reg_load 39 _ rfl e0 (hV9.below hH.below hVl) Tryz.underlying39 rfl (by rw [List.size_toArray, bcells_length, sdL.out]; exact infNode)
      refine Flow.pass_old 3 (Flow.met_none rfl) (.inl rfl) (by kernel_rfl) (by kernel_rfl) rfl ?_
      refine Flow.pass_old (X := .int .i64 (k : Nat)) 11 (Flow.met_none rfl) (.inl rfl) (by kernel_rfl) (by kernel_rfl) rfl ?_
      refine Flow.pass_step (Reg.eqs (.agg (bcells S).toArray)) (fun _ _ => Flow.kept_eqs _ _) (Flow.met_none rfl) (fun a W hH => ?_) ?_
      · have e0 := Flow.see_new 26 4 hH.sees (by kernel_rfl) (by kernel_rfl) rfl rfl
        have e1 := Flow.see_new 29 7 hH.sees (by kernel_rfl) (by kernel_rfl) rfl rfl
        have e2 := Flow.see_new 33 11 hH.sees (by kernel_rfl) (by kernel_rfl) rfl rfl
        have e3 := Flow.see_new 34 12 hH.sees (by kernel_rfl) (by kernel_rfl) rfl rfl
        have e4 := Flow.see_new 35 13 hH.sees (by kernel_rfl) (by kernel_rfl) rfl rfl
        have e5 := Flow.see_new 36 14 hH.sees (by kernel_rfl) (by kernel_rfl) rfl rfl
        refine Reg.wp_call rfl Tryz.func88 rfl (by kernel_rfl) (by simp [Act.eval, e0, e1, e2, e3, e4, e5]) (rchain_any x sd xL.out sdL.out leaf hleaf d (15 - d) k (by omega) (by omega) W) ?_
        rintro e w' ⟨rfl, hB⟩
        rw [← HS.out]
        exact ⟨_, rfl, _, rfl, hB, rfl⟩
      refine Flow.pass_gen (fun v W => ∃ b, v = .slice (some ⟨b, 0, none⟩) 1 1 ∧ (wr.heap.size ≤ b ∧ Blk W b 39 (bcells S).toArray)) (Flow.kept_of (fun _ _ _ c ⟨b, h1, h2, h3⟩ => ⟨b, h1, h2, h3.chg c id⟩) (Flow.kz_cons (fun _ => fun _ _ _ c ⟨b, h1, h2, h3⟩ => ⟨b, h1, h2, h3.chg c (fun hb => by have := (own_some hO hb).2; omega)⟩) Flow.kz_nil)) (Flow.met_none rfl) (fun a W hH => ?_) ?_
      · have e0 := Flow.see_new 37 15 hH.sees (by kernel_rfl) (by kernel_rfl) rfl rfl
        refine Flow.wp_run (Flow.reg_buildSlice _ rfl (by simp [Act.eval, e0]) (run_nodeS W S HSl.out)) ?_
        exact ⟨_, rfl, Chg.of_ext ((Ext.refl W).alloc _), W.heap.size, rfl, hH.below.size, Blk.new _ _ _⟩
      refine Flow.pass_list (fun v W => ∃ A1 c1, v = .slice A1 (k + 1) c1 ∧ W.ownsRow g0 39 32 (.slice A1 (k + 1) c1) (k + 1) ((ncells ns0) ++ bcells S)) (Flow.kept_of (fun _ _ _ c ⟨A1, c1, h1, h2⟩ => ⟨A1, c1, h1, own_chg h2 c (fun _ _ => id)⟩) (Flow.kz_cons (Flow.no_follow (by kernel_rfl)) Flow.kz_nil)) (Flow.met_none rfl) (fun a W hH => ?_) ?_
      · have e0 := Flow.see_new 22 0 hH.sees (by kernel_rfl) (by kernel_rfl) rfl rfl
        obtain ⟨b1, e1, q1⟩ := Flow.see_up 38 16 hH.sees (by kernel_rfl) (by kernel_rfl) rfl rfl
        have fa0 : (fun W => W.ownsRow g0 39 32 (.slice A k c) k (ncells ns0)) W := hH.fact _ (List.mem_of_getElem? (i := 0) rfl) rfl
        refine wpList_app W elNz rfl _ _ rfl g0 A k c _ (by simpa [Act.eval] using e0) fa0 W.heap.size (some ⟨b1, 0, none⟩) 1 1 (bcells S) (by simpa [Act.eval] using e1) (by have := q1.2.rd (size := 32) (n := 1) (by simp [bcells_length, HSl.out]); simpa using this) (bcells_one S) (by omega) (by omega) (Nat.le_trans hg0 hH.below.size) ?_
        intro A1 c1 W2 hO2 hg hB _
        exact Flow.qq_nil ⟨_, rfl, Chg.grown hg (fun b hb => hb), A1, c1, rfl, hO2⟩
      refine Flow.pass_copy 39 17 (Flow.met_none rfl) (.inr rfl) (by kernel_rfl) (by kernel_rfl) rfl rfl (Flow.kept_of (fun _ _ _ c ⟨A1, c1, h1, h2⟩ => ⟨A1, c1, h1, own_chg h2 c (fun _ _ => id)⟩) (Flow.kz_cons (Flow.no_follow (by kernel_rfl)) Flow.kz_nil)) ?_
      refine Flow.pass_end [none, none, none, none, none, none, none, none, none, none, some 10, none, none, none, none, none, none, none, none, none, none, none, some 22, some 23, some 24, some 25, some 26, some 27, some 28, some 29, some 30, some 31, some 32, some 33, some 34, some 35, some 36, some 37, some 38, some 39, none, none] (by kernel_rfl) ?_
      intro f gg w9 hB hfa hT hfg
      obtain ⟨A110, c110, h10, g10⟩ := hT 18 _ (by kernel_rfl) rfl
      rw [← hfg 10 18 (by kernel_rfl)] at h10
      simp only [Reg.sel, h10]
      have hB9 := (hBl.drew).trans hB
      clear hfa hT hfg hD9 hV9 hx hsub
      go_wp2_with fail
      go_roundw
      case rel => exact ⟨k + 1, A110, c110, by omega, rfl, by go_num, by rw [HU.out, ncells_snoc]; exact g10, hB9⟩
      case measure => simp [intOf]; omega
    · obtain rfl : k = 67 := by omega
      have hret := nodesRet_own (w := w) (n := 67) (by rw [upto_length]) hO (B2.trans (hBl.mono (by have := Hg0.out; have := B2.size; omega)))
      clear hO hBl hD hV hrg hrg2 B2
      go_wp2
      go_ret
      exact hret
end Go.Proofs.YtipdmhppadapkaaGreatDoor
/-
  Walk: portreeveref04.Ends.
-/
namespace Go.Proofs.YtipdmhppadapkaaGreatDoor
open Go.RowKit Sha

end Go.Proofs.YtipdmhppadapkaaGreatDoor
/-
  Walk: portreevelaw06.WotsChains.
-/
namespace Go.Proofs.YtipdmhppadapkaaGreatDoor
open Go.RowKit Sha

end Go.Proofs.YtipdmhppadapkaaGreatDoor
/-
  Walks: the laws WotsSteps and WotsPublic.
-/
namespace Go.Proofs.YtipdmhppadapkaaGreatDoor
open Go.RowKit Sha

theorem rpublic_no (A : Option Addr) (n c : Nat) (hn : n ≠ 67) (m sd : Nd) (leaf : Nat) (w : World) :
    Calls Tryz.prog 48 #[.slice A n c, .agg (bcells m).toArray, .agg (bcells sd).toArray, .int .u32 (leaf : Int)] w (NodesRet w []) := by
  have B0 : Below w.heap.size w ((w.alloc (.cells (bcells m).toArray 39)).alloc (.cells (bcells sd).toArray 39)) := ((Below.refl _ _).alloc (Nat.le_refl _) _).alloc (by simp) _
  have h1 : ((n : Int) != 67) = true := by simpa using (show ¬ (n : Int) = 67 by omega)
  have h2 : ¬ (n : Int) = 67 := by omega
  go_enter Tryz.func48, Tryz.ntmps48
  go_wp2
  go_ret
  exact nodesRet_nil B0
theorem rpublic_any (A : Option Addr) (n c : Nat) (ns : List Nd) (hn : n = ns.length) (h32 : All32 ns) (m : Nd) (hm : m.length = 32) (sd : Nd) (hsd : sd.length = 32) (leaf : Nat) (hleaf : leaf < 4294967296) (w : World) (hR : Rd w w.heap.size 32 A n (ncells ns)) :
    Calls Tryz.prog 48 #[.slice A n c, .agg (bcells m).toArray, .agg (bcells sd).toArray, .int .u32 (leaf : Int)] w (NodesRet w (pubsV ns m sd leaf)) := by
  subst hn
  unfold pubsV
  split
  · rename_i h
    have := rpublic_yes A c ns h32 h m hm sd hsd leaf hleaf w (by rw [← h]; exact hR)
    rw [h]; exact this
  · rename_i h
    exact rpublic_no A _ c h m sd leaf w
theorem pubsV_all {ns : List Nd} (h32 : All32 ns) (m sd : Nd) (leaf : Nat) : All32 (pubsV ns m sd leaf) ∧ (pubsV ns m sd leaf).length ≤ 67 := by
  unfold pubsV
  split
  · rename_i h
    rw [← pubF_upto]
    exact ⟨all32_upto (pubF_length h32 h m sd leaf) _, by rw [upto_length]; exact Nat.le_refl _⟩
  · exact ⟨(fun _ h => by cases h), by simp⟩
end Go.Proofs.YtipdmhppadapkaaGreatDoor
