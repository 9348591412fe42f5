/-
  Parts: XmssA XmssB XmssC XmssD XmssE XmssF EqS XmssG XmssH SigA SigB SigC SigD SigE SigF SigG SigH Num2 SigI.
-/
import Derived.Test.YtgfdjfglfipjfaaDoorBB
import Derived.Test.YtgfdjfglfipjfaaDoorBA
import Derived.DeepKeys
import Derived.Deep.Cut
/-
  Walks: heights and sizes of kinds (xmss.Height, xmss.Size, portreeveref04.Height); portreevelaw08.awake; the statement XmssKinds.
-/
namespace Go.Proofs.YtgfdjfglfipjfaaDoor
open Go.RowKit

def hgt (o : Nat) : Nat := if o = 1 then 10 else if o = 2 then 16 else if o = 3 then 20 else 0
def isKind (o : Nat) : Bool := o == 1 || o == 2 || o == 3
def sigSize (o : Nat) : Nat := if isKind o then 36 + 32 * (67 + hgt o) else 0

theorem mHeight_any (o : Nat) (w : World) : Calls Tryd.prog 55 #[.int .u32 (o : Nat)] w fun e w' => e = .returned (.tuple #[.int .i64 (hgt o : Nat), .bool (isKind o)]) ∧ w = w' := by
  go_enter Tryd.func55, Tryd.ntmps55
  by_cases h1 : o = 1
  · subst h1
    go_wp2
    go_ret2
    exact ⟨rfl, rfl⟩
  by_cases h2 : o = 2
  · subst h2
    go_wp2
    go_ret2
    exact ⟨rfl, rfl⟩
  by_cases h3 : o = 3
  · subst h3
    go_wp2
    go_ret2
    exact ⟨rfl, rfl⟩
  have k1 : (((o : Nat) : Int) == 1) = false := by simp; omega
  have k2 : (((o : Nat) : Int) == 2) = false := by simp; omega
  have k3 : (((o : Nat) : Int) == 3) = false := by simp; omega
  have e1 : hgt o = 0 := by simp [hgt, h1, h2, h3]
  have e2 : isKind o = false := by simp [isKind, h1, h2, h3]
  rw [e1, e2]
  clear h1 h2 h3 e1 e2
  go_wp2
  go_ret2
  exact ⟨rfl, rfl⟩

theorem rHeight_any (o : Nat) (w : World) : Calls Tryd.prog 44 #[.int .u32 (o : Nat)] w fun e w' => e = .returned (.tuple #[.int .i64 (hgt o : Nat), .bool (isKind o)]) ∧ w = w' := by
  go_enter Tryd.func44, Tryd.ntmps44
  by_cases h1 : o = 1
  · subst h1
    go_wp2
    go_ret2
    exact ⟨rfl, rfl⟩
  by_cases h2 : o = 2
  · subst h2
    go_wp2
    go_ret2
    exact ⟨rfl, rfl⟩
  by_cases h3 : o = 3
  · subst h3
    go_wp2
    go_ret2
    exact ⟨rfl, rfl⟩
  have k1 : (((o : Nat) : Int) == 1) = false := by simp; omega
  have k2 : (((o : Nat) : Int) == 2) = false := by simp; omega
  have k3 : (((o : Nat) : Int) == 3) = false := by simp; omega
  have e1 : hgt o = 0 := by simp [hgt, h1, h2, h3]
  have e2 : isKind o = false := by simp [isKind, h1, h2, h3]
  rw [e1, e2]
  clear h1 h2 h3 e1 e2
  go_wp2
  go_ret2
  exact ⟨rfl, rfl⟩

theorem mSize_any (o : Nat) (w : World) : Calls Tryd.prog 38 #[.int .u32 (o : Nat)] w fun e w' => e = .returned (.tuple #[.int .i64 (sigSize o : Nat), .bool (isKind o)]) ∧ w = w' := by
  go_enter Tryd.func38, Tryd.ntmps38
  have hh : hgt o ≤ 20 := by unfold hgt; split <;> (try split) <;> (try split) <;> omega
  go_wp2_with fail
  refine (mHeight_any o w).mono ?_
  rintro e w' ⟨rfl, rfl⟩
  cases hk : isKind o with
  | false =>
    have hz : sigSize o = 0 := by simp [sigSize, hk]
    go_wp2
    go_ret2
    exact ⟨by rw [hk]; exact congrArg (fun x : Int => Ending.returned (.tuple #[.int .i64 x, .bool false])) (show (0 : Int) = (sigSize o : Nat) by rw [hz]; rfl), rfl⟩
  | true =>
    have hz : sigSize o = 36 + 32 * (67 + hgt o) := by simp [sigSize, hk]
    go_wp2
    go_ret2
    exact ⟨by rw [hk]; exact congrArg (fun x : Int => Ending.returned (.tuple #[.int .i64 x, .bool true])) (show (4 : Int) + 32 * (68 + (hgt o : Nat)) = (sigSize o : Nat) by rw [hz]; omega), rfl⟩

theorem size_one : sigSize 1 = 2500 := rfl
theorem zeros_rd {w : World} {g : Nat} (h : Blk w g 5 (bcells (List.replicate 68 0)).toArray) : Rd w w.heap.size 1 (some ⟨g, 0, none⟩) 68 (bcells (List.replicate 68 0)) := by
  have := h.rd (size := 1) (n := 68) (by simp [bcells_length])
  simpa using this

end Go.Proofs.YtgfdjfglfipjfaaDoor
/-
  Walks: xmss.KeyOf of bytes without a kind; portreevelaw08.awake.
-/
namespace Go.Proofs.YtgfdjfglfipjfaaDoor
open Go.RowKit

theorem elb : Elem Tryd.prog 43 5 (.int .u8 0) 1 1 := Elem.of (by kernel_rfl) (by kernel_rfl) rfl (by omega)
theorem keyOne : Tryd.zeroCells42.all (·.oneCell') = true := by kernel_rfl
theorem results_cell_tmp {P : Program} {fn : Func} {p q : Tmp} {ty : TypeId} (h : fn.results = #[.cell p ty, .tmp q]) (tmps : Array Value) (w : World) (g : Nat) (t : TypeId) (cs : Array Value) (fr : Nat × Nat) (d : TypeDesc)
    (hp : tmps.getD p undef = .pointer (some ⟨g, 0, none⟩)) (hg : w.heap[g]? = some (.cells cs t fr))
    (hu : P.underlying ty = some d) (hd : (match d with | .struct _ | .array _ _ => true | _ => false) = true) (hi : (P.info? ty).map (·.size) = some cs.size) :
    (results fn tmps).run P w = .ok (.tuple #[.agg cs, tmps.getD q undef]) w := by
  have hp' : tmps[p]?.getD undef = .pointer (some ⟨g, 0, none⟩) := by simpa using hp
  simp [results, h, hp', asAddr, run_loadVar_row w g t ty cs fr d hg hu hd hi]

set_option maxRecDepth 100000 in
set_option maxHeartbeats 1000000 in
theorem mKeyOf_none (A : Option Addr) (n c : Nat) (l : List UInt8) (w : World) (h : Rd w w.heap.size 1 A n (bcells l)) (hn : n ≤ 1000000) (hk : isKind (rdNum l 0 4 false) = false) :
    Calls Tryd.prog 39 #[.slice A n c] w fun e w' => e = .returned (.tuple #[.agg Tryd.zeroCells42, .int .i64 80]) ∧ Below w.heap.size w w' := by
  go_enter Tryd.func39, Tryd.ntmps39
  go_wp2_with fail
  have B1 : Below w.heap.size w (w.alloc (.cells Tryd.zeroCells42 42)) := (Below.refl _ w).alloc (Nat.le_refl _) _
  have h1 : Rd (w.alloc (.cells Tryd.zeroCells42 42)) (w.alloc (.cells Tryd.zeroCells42 42)).heap.size 1 A n (bcells l) := (h.alloc (Nat.le_refl _) _).more (by simp)
  have hb := Blk.new w 42 Tryd.zeroCells42
  generalize w.alloc (.cells Tryd.zeroCells42 42) = W at *
  refine (be32_any A n c 0 l W h1 (by omega)).mono ?_
  rintro e w' ⟨rfl, rfl⟩
  go_wp2_with fail
  refine (mHeight_any (rdNum l 0 4 false) W).mono ?_
  rintro e w' ⟨rfl, rfl⟩
  rw [hk]
  have hzl : Tryd.zeroCells42.size = 65 := by kernel_rfl
  go_wp2_with ((with_reducible refine at_store 42 ?_); refine wpList_storeAll W rfl 42 _ _ rfl w.heap.size 42 _ Tryd.zeroCells42 hb rfl rfl rfl (by rw [hzl]; kernel_rfl) (fun v hv => Array.all_eq_true_iff_forall_mem.1 keyOne v (by simpa using hv)) ?_; intro w3 hb3 hg3 hs3)
  all_goals
    refine bodyPost_ret (results_cell_tmp rfl _ _ w.heap.size _ _ _ _ rfl hb3 Tryd.underlying42 rfl (by rw [hzl]; kernel_rfl)) rfl ⟨rfl, ?_⟩
    exact grown_below B1 hg3 B1.size (Nat.le_refl _)

set_option maxRecDepth 100000 in
set_option maxHeartbeats 1000000 in
theorem awake08 (w : World) : Calls Tryd.prog 20 #[] w fun e w' => e = .returned (.bool true) ∧ Below w.heap.size w w' := by
  go_enter Tryd.func20, Tryd.ntmps20
  go_wp2_with fail
  refine (mSize_any 1 w).mono ?_
  rintro e w' ⟨rfl, rfl⟩
  rw [size_one, show isKind 1 = true from rfl]
  go_wp2_with (at_make; refine wpList_makeN w elb rfl _ _ rfl .i64 .i64 _ _ 68 68 rfl rfl rfl rfl (by omega) (by omega) (by omega) ?_; intro w1 hb1 hs1 hB1)
  have hmc : madeCells (Value.int .u8 0).cells (68 * 1) = (bcells (List.replicate 68 0)).toArray := by kernel_rfl
  rw [hmc] at hb1
  refine (mKeyOf_none _ 68 68 (List.replicate 68 0) w1 (zeros_rd hb1) (by omega) (by kernel_rfl)).mono ?_
  rintro e w2 ⟨rfl, hB2⟩
  have B2 := hB1.trans (hB2.mono hB1.size)
  have hzl : Tryd.zeroCells42.size = 65 := by kernel_rfl
  go_wp2_with ((with_reducible refine at_store 42 ?_); refine wpList_storeAll _ rfl 42 _ _ rfl w2.heap.size 42 _ Tryd.zeroCells42 (Blk.new w2 42 Tryd.zeroCells42) rfl rfl rfl (by rw [hzl]; kernel_rfl) (fun v hv => Array.all_eq_true_iff_forall_mem.1 keyOne v (by simpa using hv)) ?_; intro w3 hb3 hg3 hs3)
  go_ret
  exact ⟨rfl, grown_below (B2.alloc B2.size _) hg3 (by simp; have := B2.size; omega) B2.size⟩
end Go.Proofs.YtgfdjfglfipjfaaDoor
/-
  Walk of the statement XmssKinds.
-/
namespace Go.Proofs.YtgfdjfglfipjfaaDoor
open Go.RowKit

theorem wf_u32' {a : Int} (h : (Lit.int .u32 a).wf = true) : ∃ n : Nat, n < 4294967296 ∧ a = n := by
  simp [Lit.wf, IntKind.min, IntKind.max, IntKind.bits, IntKind.signed] at h
  exact ⟨a.toNat, by omega, by omega⟩

end Go.Proofs.YtgfdjfglfipjfaaDoor
/-
  Walks: xmss.cutter and what it hands out; xmss.signed.may.
-/
namespace Go.Proofs.YtgfdjfglfipjfaaDoor
open Go.RowKit

theorem cutter_any (A : Option Addr) (n c : Nat) (w : World) : Calls Tryd.prog 70 #[.slice A n c] w fun e w' => e = .returned (.func (.func 89) #[] #[.pointer (some ⟨w.heap.size, 0, none⟩)]) ∧ Blk w' w.heap.size 43 #[.slice A n c] ∧ Ext w w' ∧ w'.heap.size = w.heap.size + 1 := by
  have hb := Blk.new w 43 #[.slice A n c]
  go_enter Tryd.func70, Tryd.ntmps70
  go_wp2
  go_ret
  exact ⟨rfl, hb, (Ext.refl w).alloc _, by simp⟩

/-- what a slice is cut to: k bytes less ahead -/
def CutTo (A A' : Option Addr) (n k : Nat) : Prop := ∀ W B xs, Rd W B 1 A n xs → Rd W B 1 A' (n - k) (xs.drop k)
theorem cutTo_cap {A : Option Addr} {n k c : Nat} (hn : n ≤ c) (e : c = k) : CutTo A A n k := fun W B xs h => by
  have := h.cut (k := k) (cap := c) hn
  rw [if_pos e, Nat.mul_one] at this; exact this
theorem cutTo_on {A : Option Addr} {n k c : Nat} (hk : 0 < k) (hn : n ≤ c) (e : ¬ c = k) : CutTo A (A.map fun x => ⟨x.block, x.off + k, none⟩) n k := fun W B xs h => by
  have := h.cut (k := k) (cap := c) hn
  rw [if_neg e, Nat.mul_one] at this
  have e2 : (fun x : Addr => x.add k) = fun x => ⟨x.block, x.off + k, none⟩ := by
    funext x; unfold Addr.add; rw [if_neg (by omega)]
  rw [e2] at this; exact this

theorem grown_set (w : World) (g i : Nat) (v : Value) : w.grownBy (w.setCell ⟨g, i, none⟩ v) (some g) := ⟨rfl, rfl, rfl, by simp, fun k _ hk => heap_setCell_other w ⟨g, i, none⟩ k v (fun e => hk (by simp [e]))⟩
set_option maxRecDepth 100000 in
set_option maxHeartbeats 1000000 in
theorem cut_any (g : Nat) (A : Option Addr) (n c : Nat) (w : World) (h : Blk w g 43 #[.slice A n c]) (hn : 32 ≤ n) (hc : n ≤ c) :
    Calls Tryd.prog 89 #[.int .i64 32, .pointer (some ⟨g, 0, none⟩)] w fun e w' => ∃ A', CutTo A A' n 32 ∧ e = .returned (.slice A 32 c) ∧
      Blk w' g 43 #[.slice A' (n - 32) (c - 32)] ∧ w.grownBy w' (some g) ∧ w'.heap.size = w.heap.size := by
  have fin : ∀ v, Blk (w.setCell ⟨g, 0, none⟩ v) g 43 #[v] ∧ w.grownBy (w.setCell ⟨g, 0, none⟩ v) (some g) ∧ (w.setCell ⟨g, 0, none⟩ v).heap.size = w.heap.size :=
    fun v => ⟨h.set_ 0 v, grown_set w g 0 v, by simp⟩
  have h1 := h.cell 0
  have h2 := h.frozen 0
  by_cases e : c = 32
  · have hC := cutTo_cap (A := A) (n := n) (k := 32) hc e
    obtain rfl : n = 32 := by omega
    subst e
    go_enter Tryd.func89, Tryd.ntmps89
    go_wp2
    go_ret
    exact ⟨_, hC, rfl, fin _⟩
  · have hC := cutTo_on (A := A) (n := n) (k := 32) (by omega) hc e
    go_enter Tryd.func89, Tryd.ntmps89
    go_wp2
    go_ret
    exact ⟨_, hC, rfl, fin _⟩

/-- a signature with its height -/
def sigCells (i : Nat) (r : List UInt8) (v1 v2 : Value) : List Value := .int .u32 i :: (bcells r ++ [v1, v2])
def may (n1 n2 i h : Nat) : Bool := n1 == 67 && n2 == h && decide (i < 2 ^ h)

theorem sig_cell {w : World} {g : Nat} {t : TypeId} {i : Nat} {r : List UInt8} {v1 v2 v3 : Value} (hr : r.length = 32) (h : Blk w g t (sigCells i r v1 v2 ++ [v3]).toArray) :
    w.cell? ⟨g, 0, none⟩ = some (.int .u32 i) ∧ w.cell? ⟨g, 33, none⟩ = some v1 ∧ w.cell? ⟨g, 34, none⟩ = some v2 ∧ w.cell? ⟨g, 35, none⟩ = some v3 := by
  have hl : (bcells r).length = 32 := by rw [bcells_length]; exact hr
  refine ⟨?_, ?_, ?_, ?_⟩ <;> rw [h.cell] <;> simp [sigCells, hl]
theorem div_pow_eq (i h : Nat) : (((i : Int) / 2 ^ h) == 0) = decide (i < 2 ^ h) := by
  rw [Bool.eq_iff_iff, beq_iff_eq, decide_eq_true_eq]
  have e : ((i : Int) / 2 ^ h) = ((i / 2 ^ h : Nat) : Int) := by rw [Int.natCast_ediv, Int.natCast_pow]; rfl
  rw [e, ← Nat.div_eq_zero_iff_lt (Nat.pow_pos (by omega))]
  omega
set_option maxRecDepth 100000 in
set_option maxHeartbeats 1000000 in
theorem may_any (i : Nat) (r : List UInt8) (hr : r.length = 32) (A1 A2 : Option Addr) (n1 c1 n2 c2 h : Nat) (_hi : i < 4294967296) (_hh : h ≤ 20) (w : World) :
    Calls Tryd.prog 77 #[.agg (sigCells i r (.slice A1 n1 c1) (.slice A2 n2 c2) ++ [Value.int .i64 h]).toArray] w fun e w' => e = .returned (.bool (may n1 n2 i h)) ∧ Below w.heap.size w w' := by
  obtain ⟨c0, c1, c2, c3⟩ := sig_cell hr (Blk.new w 116 (sigCells i r (.slice A1 n1 c1) (.slice A2 n2 c2) ++ [Value.int .i64 h]).toArray)
  go_enter Tryd.func77, Tryd.ntmps77
  by_cases h1 : n1 = 67
  · subst h1
    by_cases h2 : n2 = h
    · subst h2
      go_wp2
      go_ret
      exact ⟨by rw [div_pow_eq]; simp [may], (Below.refl _ _).alloc (Nat.le_refl _) _⟩
    · have e : may 67 n2 i h = false := by simp [may, h2]
      rw [e]
      clear e
      go_wp2
      go_ret
      exact ⟨rfl, (Below.refl _ _).alloc (Nat.le_refl _) _⟩
  · have e : may n1 n2 i h = false := by simp [may, h1]
    rw [e]
    clear e
    go_wp2
    go_ret
    exact ⟨rfl, (Below.refl _ _).alloc (Nat.le_refl _) _⟩
end Go.Proofs.YtgfdjfglfipjfaaDoor
/-
  Walks: xmss.KeyOf of any bytes.
-/
namespace Go.Proofs.YtgfdjfglfipjfaaDoor
open Go.RowKit

theorem reg_loadRd {P : Program} {o : Oper} {a : Act} {w : World} (ty : TypeId) (t : Tmp) (ho : o.op = .load ty (.tmp t)) {A : Option Addr} {B n : Nat} {l : List UInt8} (he : a.tmps[t]?.getD undef = .pointer A)
    (h : Rd w B 1 A n (bcells l)) {d : TypeDesc} (hu : P.underlying ty = some d) (hd : d.isRow = true) (hi : (P.info? ty).map (·.size) = some (bcells l).toArray.size) (hn : 0 < (bcells l).length) :
    (execOp a.eval o).run P w = .ok (.value (.agg (bcells l).toArray)) w := by
  obtain ⟨b, off, rfl, _, hr⟩ := h.range (by rw [← h.len]; exact hn)
  have := run_loadAt_mid (P := P) w b off ty (bcells l) d hr hu hd (by simpa using hi)
  simp [execOp, ho, Act.eval, he, this]

def keyCells (o : Nat) (r s : List UInt8) : List Value := .int .u32 o :: (bcells r ++ bcells s)
theorem keyCells_one (o : Nat) (r s : List UInt8) : ∀ v ∈ (keyCells o r s).toArray.toList, v.oneCell' = true := by
  intro v hv
  simp only [keyCells, List.mem_cons, List.mem_append] at hv
  rcases hv with rfl | h | h
  · rfl
  · exact bcells_one _ v h
  · exact bcells_one _ v h
theorem run_key (o : Nat) (r s : List UInt8) (w : World) (hr : r.length = 32) (hs : s.length = 32) :
    (Instr.build 42 #[(0, .int .u32 o), (1, .agg (bcells r).toArray), (2, .agg (bcells s).toArray)]).run Tryd.prog w = .ok (.agg (keyCells o r s).toArray) w := by
  have hl : (flat [.int .u32 o, .agg (bcells r).toArray, .agg (bcells s).toArray]) = keyCells o r s := by simp [flat, keyCells, Value.cells]
  have hn : (keyCells o r s).length = 65 := by simp [keyCells, bcells_length, hr, hs]
  have := run_build_rows (P := Tryd.prog) w (t := 42) (z := Tryd.zeroCells42) #[(0, .int .u32 o), (1, .agg (bcells r).toArray), (2, .agg (bcells s).toArray)] [.int .u32 o, .agg (bcells r).toArray, .agg (bcells s).toArray] [(0, 1), (1, 32), (33, 32)]
    Tryd.underlying42 (by kernel_rfl) (by kernel_rfl) rfl (by simp [Rows1, Value.cells, bcells_length, hr, hs]) (by rw [hl, hn]; exact Nat.le_of_eq (by kernel_rfl))
  rw [hl, hn] at this
  rw [this]
  have e : (Tryd.zeroCells42).toList.drop 65 = [] := by kernel_rfl
  rw [e, List.append_nil]

def zeroNode0 : List UInt8 := List.replicate 32 0
def keyOk (l : List UInt8) : Bool := l.length == 68 && isKind (rdNum l 0 4 false)
def keyVal (l : List UInt8) : List Value := if keyOk l then keyCells (rdNum l 0 4 false) ((l.drop 4).take 32) (l.drop 36) else keyCells 0 zeroNode0 zeroNode0
def keyErr (l : List UInt8) : Int := if keyOk l then 0 else 80
theorem keyZero : Tryd.zeroCells42 = (keyCells 0 zeroNode0 zeroNode0).toArray := by kernel_rfl

set_option maxRecDepth 100000 in
set_option maxHeartbeats 1000000 in
theorem mKeyOf_len (A : Option Addr) (n c : Nat) (l : List UInt8) (w : World) (h : Rd w w.heap.size 1 A n (bcells l)) (hn : n ≤ 1000000) (hk : isKind (rdNum l 0 4 false) = true) (h68 : ¬ n = 68) :
    Calls Tryd.prog 39 #[.slice A n c] w fun e w' => e = .returned (.tuple #[.agg Tryd.zeroCells42, .int .i64 80]) ∧ Below w.heap.size w w' := by
  go_enter Tryd.func39, Tryd.ntmps39
  go_wp2_with fail
  have B1 : Below w.heap.size w (w.alloc (.cells Tryd.zeroCells42 42)) := (Below.refl _ w).alloc (Nat.le_refl _) _
  have h1 : Rd (w.alloc (.cells Tryd.zeroCells42 42)) (w.alloc (.cells Tryd.zeroCells42 42)).heap.size 1 A n (bcells l) := (h.alloc (Nat.le_refl _) _).more (by simp)
  have hb := Blk.new w 42 Tryd.zeroCells42
  generalize w.alloc (.cells Tryd.zeroCells42 42) = W at *
  refine (be32_any A n c 0 l W h1 (by omega)).mono ?_
  rintro e w' ⟨rfl, rfl⟩
  go_wp2_with fail
  refine (mHeight_any (rdNum l 0 4 false) W).mono ?_
  rintro e w' ⟨rfl, rfl⟩
  rw [hk]
  have hzl : Tryd.zeroCells42.size = 65 := by kernel_rfl
  go_wp2_with ((with_reducible refine at_store 42 ?_); refine wpList_storeAll W rfl 42 _ _ rfl w.heap.size 42 _ Tryd.zeroCells42 hb rfl rfl rfl (by rw [hzl]; kernel_rfl) (fun v hv => Array.all_eq_true_iff_forall_mem.1 keyOne v (by simpa using hv)) ?_; intro w3 hb3 hg3 hs3)
  all_goals
    refine bodyPost_ret (results_cell_tmp rfl _ _ w.heap.size _ _ _ _ rfl hb3 Tryd.underlying42 rfl (by rw [hzl]; kernel_rfl)) rfl ⟨rfl, ?_⟩
    exact grown_below B1 hg3 B1.size (Nat.le_refl _)

set_option maxRecDepth 100000 in
set_option maxHeartbeats 2000000 in
theorem mKeyOf_yes (A : Option Addr) (c : Nat) (l : List UInt8) (w : World) (h : Rd w w.heap.size 1 A 68 (bcells l)) (hc : 68 ≤ c) (hk : isKind (rdNum l 0 4 false) = true)
    (r s : List UInt8) (hr : r = (l.drop 4).take 32) (hs : s = l.drop 36) :
    Calls Tryd.prog 39 #[.slice A 68 c] w fun e w' => e = .returned (.tuple #[.agg (keyCells (rdNum l 0 4 false) r s).toArray, .int .i64 0]) ∧ Below w.heap.size w w' := by
  have hlen : 68 = l.length := by have := h.len; rw [bcells_length] at this; omega
  have rL : Hid (r.length = 32) := Lib.hid (by rw [hr]; simp; omega)
  have sL : Hid (s.length = 32) := Lib.hid (by rw [hs]; simp; omega)
  have HLEN := Lib.hid hlen
  have HR := Lib.hid hr
  have HS := Lib.hid hs
  clear hlen hr hs
  go_enter Tryd.func39, Tryd.ntmps39
  go_wp2_with fail
  have B1 : Below w.heap.size w (w.alloc (.cells Tryd.zeroCells42 42)) := (Below.refl _ w).alloc (Nat.le_refl _) _
  have h1 : Rd (w.alloc (.cells Tryd.zeroCells42 42)) (w.alloc (.cells Tryd.zeroCells42 42)).heap.size 1 A 68 (bcells l) := (h.alloc (Nat.le_refl _) _).more (by simp)
  have hb := Blk.new w 42 Tryd.zeroCells42
  have hsz : Hid ((w.alloc (.cells Tryd.zeroCells42 42)).heap.size = w.heap.size + 1) := Lib.hid (by simp)
  generalize w.alloc (.cells Tryd.zeroCells42 42) = W at *
  refine (be32_any A 68 c 0 l W h1 (by omega)).mono ?_
  rintro e w' ⟨rfl, rfl⟩
  go_wp2_with fail
  refine (mHeight_any (rdNum l 0 4 false) W).mono ?_
  rintro e w' ⟨rfl, rfl⟩
  rw [hk]
  have hcut : CutTo A (if c = 4 then A else A.map fun x => ⟨x.block, x.off + 4, none⟩) 68 4 := by
    split
    · rename_i e; exact cutTo_cap hc e
    · rename_i e; exact cutTo_on (by omega) hc e
  by_cases h4 : c = 4
  · omega
  rw [if_neg h4] at hcut
  have h2 := hcut _ _ _ h
  clear hcut
  go_wp2_with fail
  generalize Option.map (fun x : Addr => (⟨x.block, x.off + 4, none⟩ : Addr)) A = A0 at *
  refine (cutter_any A0 64 (c - 4) W).mono ?_
  rintro e W1 ⟨rfl, hx, hE1, hs1⟩
  go_wp2_with fail
  refine (cut_any W.heap.size A0 64 (c - 4) W1 hx (by omega) (by omega)).mono ?_
  rintro e W2 ⟨A1, hC1, rfl, hx2, hg2, hs2⟩
  go_wp2_with fail
  refine (cut_any W.heap.size A1 32 (c - 4 - 32) W2 hx2 (by omega) (by omega)).mono ?_
  rintro e W3 ⟨A2, hC2, rfl, hx3, hg3, hs3⟩
  go_wp2_with fail
  have hz := ((hb.ext hE1).grown hg2 (by simp; have := hsz.out; omega)).grown hg3 (by simp; have := hsz.out; omega)
  have B3 := grown_below (grown_below (B1.trans (hE1.below B1.size)) hg2 (by have := B1.size; omega) B1.size) hg3 (by have := B1.size; omega) B1.size
  have hr1 : Rd W3.drew w.heap.size 1 A0 32 (bcells r) := by
    have := (h2.front (k := 32) (by omega)).below B3
    rw [HR.out]
    simp only [bcells, List.map_take, List.map_drop, Nat.mul_one] at this ⊢
    exact this.drew
  have hr2 : Rd W3.drew w.heap.size 1 A1 32 (bcells s) := by
    have := (hC1 _ _ _ h2).below B3
    rw [HS.out]
    simp only [bcells, List.map_drop, List.drop_drop] at this ⊢
    exact this.drew
  clear hg2 hg3 hx hx2 hx3 hE1 hb h2 hC1 hC2 h1
  have B3' := B3.drew
  have hk65 : (keyCells (rdNum l 0 4 false) r s).toArray.size = 65 := by simp [keyCells, bcells_length, rL.out, sL.out]
  refine Flow.wp_region_flow (w.heap.size) [(8, fun b => b = w.heap.size)] [(8, fun W => Blk W w.heap.size 42 Tryd.zeroCells42)] (by kernel_rfl) (by kernel_rfl) B3'.size (Flow.nz_cons (by rintro b rfl; exact Nat.le_refl _) Flow.nz_nil) (Flow.facts_cons (hz.drew) (Flow.kept_blk id) (Flow.fz_cons (Flow.no_follow (by kernel_rfl)) Flow.fz_nil) Flow.facts_nil) ?_
  refine Flow.pass_old 4 (Flow.met_none rfl) (.inl rfl) (by kernel_rfl) (by kernel_rfl) rfl ?_
  refine Flow.pass_old 9 (Flow.met_none rfl) (.inl rfl) (by kernel_rfl) (by kernel_rfl) rfl ?_
  refine Flow.pass_val (.pointer A0) (Flow.met_none rfl) (fun a W hH => ?_) ?_
  · have e0 := Flow.see_new 37 1 hH.sees (by kernel_rfl) (by kernel_rfl) rfl rfl
    exact Flow.reg_array _ rfl e0 Tryd.underlying24 (Nat.le_refl _)
  refine Flow.pass_val (.agg (bcells (r)).toArray) (Flow.met_none rfl) (fun a W hH => ?_) ?_
  · have e0 := Flow.see_new 38 2 hH.sees (by kernel_rfl) (by kernel_rfl) rfl rfl
    exact reg_loadRd 24 _ rfl e0 (hr1.below hH.below) Tryd.underlying24 rfl (by rw [List.size_toArray, bcells_length, rL.out]; exact infNode) (by rw [bcells_length, rL.out]; omega)
  refine Flow.pass_old 10 (Flow.met_none rfl) (.inl rfl) (by kernel_rfl) (by kernel_rfl) rfl ?_
  refine Flow.pass_val (.pointer A1) (Flow.met_none rfl) (fun a W hH => ?_) ?_
  · have e0 := Flow.see_new 40 4 hH.sees (by kernel_rfl) (by kernel_rfl) rfl rfl
    exact Flow.reg_array _ rfl e0 Tryd.underlying24 (Nat.le_refl _)
  refine Flow.pass_val (.agg (bcells (s)).toArray) (Flow.met_none rfl) (fun a W hH => ?_) ?_
  · have e0 := Flow.see_new 41 5 hH.sees (by kernel_rfl) (by kernel_rfl) rfl rfl
    exact reg_loadRd 24 _ rfl e0 (hr2.below hH.below) Tryd.underlying24 rfl (by rw [List.size_toArray, bcells_length, sL.out]; exact infNode) (by rw [bcells_length, sL.out]; omega)
  refine Flow.pass_val (.agg (keyCells (rdNum l 0 4 false) r s).toArray) (Flow.met_none rfl) (fun a W hH => ?_) ?_
  · have e0 := Flow.see_new 36 0 hH.sees (by kernel_rfl) (by kernel_rfl) rfl rfl
    have e1 := Flow.see_new 39 3 hH.sees (by kernel_rfl) (by kernel_rfl) rfl rfl
    have e2 := Flow.see_new 42 6 hH.sees (by kernel_rfl) (by kernel_rfl) rfl rfl
    exact Flow.reg_build _ rfl (by simp [Act.eval, e0, e1, e2]) (run_key (rdNum l 0 4 false) r s _ rL.out sL.out)
  refine Flow.pass_list (fun _ W => Blk W w.heap.size 42 (keyCells (rdNum l 0 4 false) r s).toArray) (Flow.kept_of (fun _ _ _ c h => h.chg c id) (Flow.kz_cons (Flow.no_follow (by kernel_rfl)) Flow.kz_nil)) (Flow.met_none rfl) (fun a W hH => ?_) ?_
  · have e0 := Flow.see_old 2 hH.sees (by kernel_rfl) (by kernel_rfl) rfl
    have e1 := Flow.see_new 43 7 hH.sees (by kernel_rfl) (by kernel_rfl) rfl rfl
    have fa0 : (fun W => Blk W w.heap.size 42 Tryd.zeroCells42) W := hH.fact _ (List.mem_of_getElem? (i := 0) rfl) rfl
    refine wpList_storeAll W rfl 42 _ _ rfl w.heap.size 42 _ (keyCells (rdNum l 0 4 false) r s).toArray fa0 (by simpa [Act.eval] using e0) (by simpa [Act.eval] using e1) (by rw [hk65]; kernel_rfl) (by rw [hk65]; kernel_rfl) (keyCells_one _ r s) ?_
    intro W2 h2 hg _
    exact Flow.qq_nil ⟨_, rfl, Chg.grown hg (by rintro k h; cases h; rfl), h2⟩
  apply Flow.pass_val (hm := (Flow.met_none rfl))
  · intro a W hH
    go_simp; first | done | rfl
  refine Flow.pass_end [none, none, none, some 3, none, none, none, none, none, none, none, none, none, none, none, none, none, none, none, none, none, none, none, none, none, none, none, none, none, none, none, none, none, none, none, none, some 36, some 37, some 38, some 39, some 40, some 41, some 42, some 43] (by kernel_rfl) ?_
  intro f g w9 hB hfa hT hfg
  have hb9 := hT 8 _ (by kernel_rfl) rfl
  have h3 : f 3 = .int .i64 0 := (hfg 3 9 (by kernel_rfl)).trans (hT 9 _ (by kernel_rfl) rfl)
  simp only [Reg.sel, h3]
  clear hT hfg hfa
  go_wp2
  refine bodyPost_ret (results_cell_tmp rfl _ _ w.heap.size _ _ _ _ rfl hb9 Tryd.underlying42 rfl (by rw [hk65]; kernel_rfl)) rfl ⟨rfl, ?_⟩
  exact B3'.trans hB

theorem mKeyOf_any (A : Option Addr) (n c : Nat) (l : List UInt8) (w : World) (h : Rd w w.heap.size 1 A n (bcells l)) (hn : n ≤ 1000000) (hc : n ≤ c) :
    Calls Tryd.prog 39 #[.slice A n c] w fun e w' => e = .returned (.tuple #[.agg (keyVal l).toArray, .int .i64 (keyErr l)]) ∧ Below w.heap.size w w' := by
  have hlen : n = l.length := by have := h.len; rw [bcells_length] at this; omega
  cases hk : isKind (rdNum l 0 4 false) with
  | false =>
    have e : keyOk l = false := by simp [keyOk, hk]
    have := mKeyOf_none A n c l w h hn hk
    rw [keyZero] at this
    rw [keyVal, keyErr, e]
    exact this
  | true =>
    by_cases h68 : n = 68
    · have e : keyOk l = true := by simp [keyOk, hk, ← hlen, h68]
      subst h68
      rw [keyVal, keyErr, e]
      exact mKeyOf_yes A c l w h hc hk _ _ rfl rfl
    · have e : keyOk l = false := by simp [keyOk, ← hlen, h68]
      have := mKeyOf_len A n c l w h hn hk h68
      rw [keyZero] at this
      rw [keyVal, keyErr, e]
      exact this
end Go.Proofs.YtgfdjfglfipjfaaDoor
/-
  Walks: portreeveref04.KeyOf of any bytes.
-/
namespace Go.Proofs.YtgfdjfglfipjfaaDoor
open Go.RowKit

theorem Rd.at_ {w : World} {B n : Nat} {A : Option Addr} {l : List UInt8} (h : Rd w B 1 A n (bcells l)) (k m : Nat) (hkm : k + m ≤ n) (hk : 0 < k) :
    Rd w B 1 (A.map fun x => ⟨x.block, x.off + k, none⟩) m (bcells ((l.drop k).take m)) := by
  have h1 := (cutTo_on (A := A) (n := n) (k := k) (c := n + k) hk (by omega) (by omega)) _ _ _ h
  have h2 := h1.front (k := m) (by omega)
  rw [Nat.mul_one] at h2
  simp only [bcells, List.map_take, List.map_drop] at h2 ⊢
  exact h2

set_option maxRecDepth 100000 in
set_option maxHeartbeats 1000000 in
theorem rKeyOf_no (A : Option Addr) (n c : Nat) (l : List UInt8) (w : World) (h : Rd w w.heap.size 1 A n (bcells l)) (hn : n ≤ 1000000) (h68 : ¬ n = 68 ∨ isKind (rdNum l 0 4 false) = false) :
    Calls Tryd.prog 51 #[.slice A n c] w fun e w' => e = .returned (.tuple #[.agg Tryd.zeroCells42, .int .i64 80]) ∧ Below w.heap.size w w' := by
  go_enter Tryd.func51, Tryd.ntmps51
  go_wp2_with fail
  have B1 : Below w.heap.size w (w.alloc (.cells Tryd.zeroCells42 42)) := (Below.refl _ w).alloc (Nat.le_refl _) _
  have h1 : Rd (w.alloc (.cells Tryd.zeroCells42 42)) (w.alloc (.cells Tryd.zeroCells42 42)).heap.size 1 A n (bcells l) := (h.alloc (Nat.le_refl _) _).more (by simp)
  have hb := Blk.new w 42 Tryd.zeroCells42
  generalize w.alloc (.cells Tryd.zeroCells42 42) = W at *
  refine (number_any A n c 0 false l W 4 h1 (by omega) (by omega) (by omega)).mono ?_
  rintro e w' ⟨rfl, rfl⟩
  have hlt := rdNum_lt l 0 4 false
  generalize rdNum l 0 4 false = o at *
  have hcv : IntKind.u32.wrap (o : Int) = (o : Int) := IntWalk.u32_in _ (by omega)
  go_wp2_with fail
  refine (rHeight_any o W).mono ?_
  rintro e w' ⟨rfl, rfl⟩
  have hzl : Tryd.zeroCells42.size = 65 := by kernel_rfl
  rcases h68 with h68 | h68
  · go_wp2_with ((with_reducible refine at_store 42 ?_); refine wpList_storeAll W rfl 42 _ _ rfl w.heap.size 42 _ Tryd.zeroCells42 hb rfl rfl rfl (by rw [hzl]; kernel_rfl) (fun v hv => Array.all_eq_true_iff_forall_mem.1 keyOne v (by simpa using hv)) ?_; intro w3 hb3 hg3 hs3)
    all_goals
      refine bodyPost_ret (results_cell_tmp rfl _ _ w.heap.size _ _ _ _ rfl hb3 Tryd.underlying42 rfl (by rw [hzl]; kernel_rfl)) rfl ⟨rfl, ?_⟩
      exact grown_below B1 hg3 B1.size (Nat.le_refl _)
  · rw [h68]
    go_wp2_with ((with_reducible refine at_store 42 ?_); refine wpList_storeAll W rfl 42 _ _ rfl w.heap.size 42 _ Tryd.zeroCells42 hb rfl rfl rfl (by rw [hzl]; kernel_rfl) (fun v hv => Array.all_eq_true_iff_forall_mem.1 keyOne v (by simpa using hv)) ?_; intro w3 hb3 hg3 hs3)
    all_goals
      refine bodyPost_ret (results_cell_tmp rfl _ _ w.heap.size _ _ _ _ rfl hb3 Tryd.underlying42 rfl (by rw [hzl]; kernel_rfl)) rfl ⟨rfl, ?_⟩
      exact grown_below B1 hg3 B1.size (Nat.le_refl _)

set_option maxRecDepth 100000 in
set_option maxHeartbeats 2000000 in
theorem rKeyOf_yes (A : Option Addr) (c : Nat) (l : List UInt8) (w : World) (h : Rd w w.heap.size 1 A 68 (bcells l)) (hc : 68 ≤ c) (hk : isKind (rdNum l 0 4 false) = true)
    (r s : List UInt8) (hr : r = (l.drop 4).take 32) (hs : s = l.drop 36) :
    Calls Tryd.prog 51 #[.slice A 68 c] w fun e w' => e = .returned (.tuple #[.agg (keyCells (rdNum l 0 4 false) r s).toArray, .int .i64 0]) ∧ Below w.heap.size w w' := by
  have hlen : 68 = l.length := by have := h.len; rw [bcells_length] at this; omega
  have rL : Hid (r.length = 32) := Lib.hid (by rw [hr]; simp; omega)
  have sL : Hid (s.length = 32) := Lib.hid (by rw [hs]; simp; omega)
  have HLEN := Lib.hid hlen
  have HR := Lib.hid hr
  have HS := Lib.hid hs
  clear hlen hr hs
  go_enter Tryd.func51, Tryd.ntmps51
  go_wp2_with fail
  have B1 : Below w.heap.size w (w.alloc (.cells Tryd.zeroCells42 42)) := (Below.refl _ w).alloc (Nat.le_refl _) _
  have h1 : Rd (w.alloc (.cells Tryd.zeroCells42 42)) (w.alloc (.cells Tryd.zeroCells42 42)).heap.size 1 A 68 (bcells l) := (h.alloc (Nat.le_refl _) _).more (by simp)
  have hb := Blk.new w 42 Tryd.zeroCells42
  generalize w.alloc (.cells Tryd.zeroCells42 42) = W at *
  refine (number_any A 68 c 0 false l W 4 h1 (by omega) (by omega) (by omega)).mono ?_
  rintro e w' ⟨rfl, rfl⟩
  have hlt := rdNum_lt l 0 4 false
  have hcv : IntKind.u32.wrap (rdNum l 0 4 false : Int) = (rdNum l 0 4 false : Int) := IntWalk.u32_in _ (by omega)
  go_wp2_with fail
  refine (rHeight_any (rdNum l 0 4 false) W).mono ?_
  rintro e w' ⟨rfl, rfl⟩
  rw [hk]
  have hz := hb
  have B3' := B1.drew
  have hr1 : Rd W.drew w.heap.size 1 (A.map fun x => ⟨x.block, x.off + 4, none⟩) 32 (bcells r) := by
    have := ((h.at_ 4 32 (by omega) (by omega)).below B1).drew
    rw [HR.out]
    exact this
  have hr2 : Rd W.drew w.heap.size 1 (A.map fun x => ⟨x.block, x.off + 36, none⟩) 32 (bcells s) := by
    have := ((h.at_ 36 32 (by omega) (by omega)).below B1).drew
    rw [HS.out]
    rw [List.take_of_length_le (by have := HLEN.out; simp; omega)] at this
    exact this
  have hk65 : (keyCells (rdNum l 0 4 false) r s).toArray.size = 65 := by simp [keyCells, bcells_length, rL.out, sL.out]
  have h4 : ¬ c = 4 := by omega
  have h36 : ¬ c = 36 := by omega
  have c36 : (36 : Int) ≤ (c : Int) := by omega
  go_wp2_with fail
  refine Flow.wp_region_flow (w.heap.size) [(11, fun b => b = w.heap.size)] [(11, fun W => Blk W w.heap.size 42 Tryd.zeroCells42)] (by kernel_rfl) (by kernel_rfl) B3'.size (Flow.nz_cons (by rintro b rfl; exact Nat.le_refl _) Flow.nz_nil) (Flow.facts_cons (hz.drew) (Flow.kept_blk id) (Flow.fz_cons (Flow.no_follow (by kernel_rfl)) Flow.fz_nil) Flow.facts_nil) ?_
  refine Flow.pass_old 4 (Flow.met_none rfl) (.inl rfl) (by kernel_rfl) (by kernel_rfl) rfl ?_
  refine Flow.pass_val (.int .u32 (rdNum l 0 4 false : Nat)) (Flow.met_none rfl) (fun a W hH => ?_) ?_
  · have e0 := Flow.see_new 27 0 hH.sees (by kernel_rfl) (by kernel_rfl) rfl rfl
    go_simp
  refine Flow.pass_old 0 (Flow.met_none rfl) (.inl rfl) (by kernel_rfl) (by kernel_rfl) rfl ?_
  refine Flow.pass_val (.slice (A.map fun x => ⟨x.block, x.off + 4, none⟩) 32 (c - 4)) (Flow.met_none rfl) (fun a W hH => ?_) ?_
  · have e0 := Flow.see_new 29 2 hH.sees (by kernel_rfl) (by kernel_rfl) rfl rfl
    go_simp
  refine Flow.pass_val (.pointer (A.map fun x => ⟨x.block, x.off + 4, none⟩)) (Flow.met_none rfl) (fun a W hH => ?_) ?_
  · have e0 := Flow.see_new 30 3 hH.sees (by kernel_rfl) (by kernel_rfl) rfl rfl
    exact Flow.reg_array _ rfl e0 Tryd.underlying24 (Nat.le_refl _)
  refine Flow.pass_val (.agg (bcells (r)).toArray) (Flow.met_none rfl) (fun a W hH => ?_) ?_
  · have e0 := Flow.see_new 31 4 hH.sees (by kernel_rfl) (by kernel_rfl) rfl rfl
    exact reg_loadRd 24 _ rfl e0 (hr1.below hH.below) Tryd.underlying24 rfl (by rw [List.size_toArray, bcells_length, rL.out]; exact infNode) (by rw [bcells_length, rL.out]; omega)
  refine Flow.pass_old 0 (Flow.met_none rfl) (.inl rfl) (by kernel_rfl) (by kernel_rfl) rfl ?_
  refine Flow.pass_val (.slice (A.map fun x => ⟨x.block, x.off + 36, none⟩) 32 (c - 36)) (Flow.met_none rfl) (fun a W hH => ?_) ?_
  · have e0 := Flow.see_new 33 6 hH.sees (by kernel_rfl) (by kernel_rfl) rfl rfl
    go_simp
  refine Flow.pass_val (.pointer (A.map fun x => ⟨x.block, x.off + 36, none⟩)) (Flow.met_none rfl) (fun a W hH => ?_) ?_
  · have e0 := Flow.see_new 34 7 hH.sees (by kernel_rfl) (by kernel_rfl) rfl rfl
    exact Flow.reg_array _ rfl e0 Tryd.underlying24 (Nat.le_refl _)
  refine Flow.pass_val (.agg (bcells (s)).toArray) (Flow.met_none rfl) (fun a W hH => ?_) ?_
  · have e0 := Flow.see_new 35 8 hH.sees (by kernel_rfl) (by kernel_rfl) rfl rfl
    exact reg_loadRd 24 _ rfl e0 (hr2.below hH.below) Tryd.underlying24 rfl (by rw [List.size_toArray, bcells_length, sL.out]; exact infNode) (by rw [bcells_length, sL.out]; omega)
  refine Flow.pass_val (.agg (keyCells (rdNum l 0 4 false) r s).toArray) (Flow.met_none rfl) (fun a W hH => ?_) ?_
  · have e0 := Flow.see_new 28 1 hH.sees (by kernel_rfl) (by kernel_rfl) rfl rfl
    have e1 := Flow.see_new 32 5 hH.sees (by kernel_rfl) (by kernel_rfl) rfl rfl
    have e2 := Flow.see_new 36 9 hH.sees (by kernel_rfl) (by kernel_rfl) rfl rfl
    exact Flow.reg_build _ rfl (by simp [Act.eval, e0, e1, e2]) (run_key (rdNum l 0 4 false) r s _ rL.out sL.out)
  refine Flow.pass_list (fun _ W => Blk W w.heap.size 42 (keyCells (rdNum l 0 4 false) r s).toArray) (Flow.kept_of (fun _ _ _ c h => h.chg c id) (Flow.kz_cons (Flow.no_follow (by kernel_rfl)) Flow.kz_nil)) (Flow.met_none rfl) (fun a W hH => ?_) ?_
  · have e0 := Flow.see_old 2 hH.sees (by kernel_rfl) (by kernel_rfl) rfl
    have e1 := Flow.see_new 37 10 hH.sees (by kernel_rfl) (by kernel_rfl) rfl rfl
    have fa0 : (fun W => Blk W w.heap.size 42 Tryd.zeroCells42) W := hH.fact _ (List.mem_of_getElem? (i := 0) rfl) rfl
    refine wpList_storeAll W rfl 42 _ _ rfl w.heap.size 42 _ (keyCells (rdNum l 0 4 false) r s).toArray fa0 (by simpa [Act.eval] using e0) (by simpa [Act.eval] using e1) (by rw [hk65]; kernel_rfl) (by rw [hk65]; kernel_rfl) (keyCells_one _ r s) ?_
    intro W2 h2 hg _
    exact Flow.qq_nil ⟨_, rfl, Chg.grown hg (by rintro k h; cases h; rfl), h2⟩
  apply Flow.pass_val (hm := (Flow.met_none rfl))
  · intro a W hH
    go_simp; first | done | rfl
  refine Flow.pass_end [none, none, none, some 3, none, none, none, none, none, none, none, none, none, none, none, none, none, none, none, none, none, none, none, none, none, none, none, some 27, some 28, some 29, some 30, some 31, some 32, some 33, some 34, some 35, some 36, some 37] (by kernel_rfl) ?_
  intro f g w9 hB hfa hT hfg
  have hb9 := hT 11 _ (by kernel_rfl) rfl
  have h3 : f 3 = .int .i64 0 := (hfg 3 12 (by kernel_rfl)).trans (hT 12 _ (by kernel_rfl) rfl)
  simp only [Reg.sel, h3]
  clear hT hfg hfa
  go_wp2
  refine bodyPost_ret (results_cell_tmp rfl _ _ w.heap.size _ _ _ _ rfl hb9 Tryd.underlying42 rfl (by rw [hk65]; kernel_rfl)) rfl ⟨rfl, ?_⟩
  exact B3'.trans hB

theorem rKeyOf_any (A : Option Addr) (n c : Nat) (l : List UInt8) (w : World) (h : Rd w w.heap.size 1 A n (bcells l)) (hn : n ≤ 1000000) (hc : n ≤ c) :
    Calls Tryd.prog 51 #[.slice A n c] w fun e w' => e = .returned (.tuple #[.agg (keyVal l).toArray, .int .i64 (keyErr l)]) ∧ Below w.heap.size w w' := by
  have hlen : n = l.length := by have := h.len; rw [bcells_length] at this; omega
  by_cases h68 : n = 68 ∧ isKind (rdNum l 0 4 false) = true
  · obtain ⟨h68, hk⟩ := h68
    have e : keyOk l = true := by simp [keyOk, hk, ← hlen, h68]
    subst h68
    rw [keyVal, keyErr, e]
    exact rKeyOf_yes A c l w h hc hk _ _ rfl rfl
  · have hor : ¬ n = 68 ∨ isKind (rdNum l 0 4 false) = false := by
      by_cases h1 : n = 68
      · right; cases h2 : isKind (rdNum l 0 4 false) <;> simp_all
      · exact .inl h1
    have e : keyOk l = false := by
      rcases hor with h1 | h1
      · simp [keyOk, ← hlen, h1]
      · simp [keyOk, h1]
    have := rKeyOf_no A n c l w h hn hor
    rw [keyZero] at this
    rw [keyVal, keyErr, e]
    exact this
end Go.Proofs.YtgfdjfglfipjfaaDoor
/-
  == on whole values (structs, arrays) by what they read as.
-/
namespace Go.Proofs.YtgfdjfglfipjfaaDoor
open Go.RowKit
section
variable {P : Program}
theorem keyLits_byte {d : Nat} {e : TypeId} (he : P.underlying e = some (.int .u8)) (c : UInt8) : P.keyLits (d + 1) e [.int .u8 (c.toNat : Int)] = some [.int .u8 (c.toNat : Int)] := by
  have : (Lit.int .u8 (c.toNat : Int)).wf = true := by
    have := c.toNat_lt
    simp [Lit.wf, IntKind.min, IntKind.max, IntKind.bits, IntKind.signed]; omega
  simp [Program.keyLits, he, this]
theorem keyLits_int {d : Nat} {e : TypeId} {k : IntKind} (he : P.underlying e = some (.int k)) (x : Int) (hx : (Lit.int k x).wf = true) : P.keyLits (d + 1) e [.int k x] = some [.int k x] := by
  simp [Program.keyLits, he, hx]
theorem keyLits_string {d : Nat} {e : TypeId} (he : P.underlying e = some .string) (s : ByteArray) (hs : s.size ≤ maxLen) : P.keyLits (d + 1) e [.string s] = some [.string s.data.toList] := by
  simp [Program.keyLits, he, hs]
theorem mapM_some' {α β : Type} (f : α → Option β) (g : α → β) : ∀ (l : List α), (∀ a ∈ l, f a = some (g a)) → l.mapM f = some (l.map g)
  | [], _ => rfl
  | a :: l, h => by simp [List.mapM_cons, h a (by simp), mapM_some' f g l (fun b hb => h b (by simp [hb]))]
theorem keyLits_bytes {d : Nat} {t e : TypeId} {n : Nat} (ht : P.underlying t = some (.array n e)) (he : P.underlying e = some (.int .u8)) (hc : P.cellsOf e = 1) (hn : P.cellsOf t = n) (l : List UInt8) (hl : l.length = n) :
    P.keyLits (d + 2) t (bcells l) = some (l.map fun c => Lit.int .u8 (c.toNat : Int)) := by
  have h1 : ((List.range n).mapM fun i => P.keyLits (d + 1) e (((bcells l).drop (i * 1)).take 1)) = some ((List.range n).map fun i => [Lit.int .u8 ((l[i]?.getD 0).toNat : Int)]) := by
    refine mapM_some' _ _ _ fun i hi => ?_
    have hi' : i < l.length := by rw [hl]; simpa using hi
    have : ((bcells l).drop (i * 1)).take 1 = [.int .u8 ((l[i]?.getD 0).toNat : Int)] := by
      rw [Nat.mul_one, List.drop_eq_getElem_cons (by rw [bcells_length]; exact hi')]
      simp [bcells, hi']
    rw [this, keyLits_byte he]
  unfold Program.keyLits
  simp only [ht, bcells_length, hl, hn, hc, if_true]
  rw [h1]
  simp only [Option.map_some, Option.some.injEq]
  apply List.ext_getElem?
  intro k
  have : (List.map (fun i => [Lit.int .u8 ((l[i]?.getD 0).toNat : Int)]) (List.range n)).flatten = (List.range n).map fun i => Lit.int .u8 ((l[i]?.getD 0).toNat : Int) := by
    generalize List.range n = r
    induction r with
    | nil => rfl
    | cons a r ih => simp [ih]
  rw [this]
  by_cases hk : k < n
  · simp [hk, List.getElem?_eq_getElem (show k < l.length by omega)]
  · simp [hk, List.getElem?_eq_none (show l.length ≤ k by omega)]

/-- a struct's fields, part by part -/
def Fits (P : Program) (d : Nat) : List Field → List (List Value) → List (List Lit) → Nat → Prop
  | [], [], [], _ => True
  | f :: fs, p :: ps, l :: ls, off => f.offset = off ∧ P.cellsOf f.type = p.length ∧ P.keyLits d f.type p = some l ∧ Fits P d fs ps ls (off + p.length)
  | _, _, _, _ => False
theorem fits_mapM {d : Nat} : ∀ (fs : List Field) (ps : List (List Value)) (ls : List (List Lit)) (done : List Value), Fits P d fs ps ls done.length →
    fs.mapM (fun f => P.keyLits d f.type (((done ++ ps.flatten).drop f.offset).take (P.cellsOf f.type))) = some ls
  | [], [], [], _, _ => rfl
  | f :: fs, p :: ps, l :: ls, done, ⟨h1, h2, h3, h4⟩ => by
    have ih := fits_mapM fs ps ls (done ++ p) (by rw [List.length_append]; exact h4)
    rw [List.append_assoc] at ih
    have e : ((done ++ (p :: ps).flatten).drop f.offset).take (P.cellsOf f.type) = p := by
      rw [h1, h2, List.flatten_cons, List.drop_left, List.take_left]
    simp only [List.mapM_cons, e, h3, Option.pure_def, Option.bind_eq_bind, Option.bind_some]
    rw [List.flatten_cons, ih]
    rfl
  | [], _ :: _, _, _, h => by simp [Fits] at h
  | [], [], _ :: _, _, h => by simp [Fits] at h
  | _ :: _, [], _, _, h => by simp [Fits] at h
  | _ :: _, _ :: _, [], _, h => by simp [Fits] at h
theorem fits_nil {d off : Nat} : Fits P d [] [] [] off := trivial
theorem fits_cons {d off : Nat} {f : Field} {fs : List Field} {p : List Value} {ps : List (List Value)} {l : List Lit} {ls : List (List Lit)} (h1 : f.offset = off) (h2 : P.cellsOf f.type = p.length) (h3 : P.keyLits d f.type p = some l)
    (h : Fits P d fs ps ls (off + p.length)) : Fits P d (f :: fs) (p :: ps) (l :: ls) off := ⟨h1, h2, h3, h⟩
theorem keyLits_struct {d : Nat} {t : TypeId} {fs : Array Field} (ht : P.underlying t = some (.struct fs)) (hn : fs.all (·.name != "_") = true) (ps : List (List Value)) (ls : List (List Lit)) (hl : ps.flatten.length = P.cellsOf t)
    (h : Fits P d fs.toList ps ls 0) : P.keyLits (d + 1) t ps.flatten = some ls.flatten := by
  have := fits_mapM fs.toList ps ls [] h
  simp only [List.nil_append] at this
  unfold Program.keyLits
  simp only [ht, hl, hn, and_self, if_true, this, Option.map_some]

theorem run_eql_lits (w : World) {t : TypeId} {m D D' : Nat} (hm : m ≤ 10000) (hk : P.keyTypeAt m t = true) {xs ys : Array Value} {lx ly : List Lit} (fx : (Value.agg xs).formed P t = true) (fy : (Value.agg ys).formed P t = true)
    (hx : P.keyLits D t xs.toList = some lx) (hy : P.keyLits D' t ys.toList = some ly) : ∃ r : Bool, (binOp .eql t (.agg xs) (.agg ys)).run P w = .ok (.bool r) w ∧ (r = true ↔ lx = ly) := by
  obtain ⟨r, hr, hiff⟩ := run_equalIn_deep (P := P) (10000 - m) m t hk w D D' (.agg xs) (.agg ys) lx ly fx fy (by simpa [Value.cells] using hx) (by simpa [Value.cells] using hy)
  rw [show 10000 - m + m = 10000 by omega] at hr
  exact ⟨r, by rw [run_eql_struct, hr]; rfl, hiff⟩
theorem run_eql_self (w : World) {t : TypeId} {m D : Nat} (hm : m ≤ 10000) (hk : P.keyTypeAt m t = true) {xs : Array Value} {lx : List Lit} (fx : (Value.agg xs).formed P t = true)
    (hx : P.keyLits D t xs.toList = some lx) : (binOp .eql t (.agg xs) (.agg xs)).run P w = .ok (.bool true) w := by
  obtain ⟨r, hr, hiff⟩ := run_eql_lits (P := P) w hm hk fx fx hx hx
  rw [hr, hiff.2 rfl]
theorem formed_agg {t : TypeId} {xs : Array Value} {d : TypeDesc} (hu : P.underlying t = some d) (hd : d.isRow = true) (hs : P.cellsOf t = xs.size) : (Value.agg xs).formed P t = true := by
  cases d <;> simp [TypeDesc.isRow] at hd <;> simp [Value.formed, hu, hs]
end
end Go.Proofs.YtgfdjfglfipjfaaDoor
/-
  Walks: xmss.PutKey, portreeveref04.PutKey.
-/
namespace Go.Proofs.YtgfdjfglfipjfaaDoor
open Go.RowKit

def putKey (o : Nat) (r s : List UInt8) : List UInt8 := putNum o 4 false ++ (r ++ s)
theorem run_buildBB (w : World) (A1 : Option Addr) (n1 c1 : Nat) (A2 : Option Addr) (n2 c2 : Nat) (A3 : Option Addr) (n3 c3 : Nat) :
    (Instr.buildSlice 117 3 #[(0, .slice A1 n1 c1), (1, .slice A2 n2 c2), (2, .slice A3 n3 c3)]).run Tryd.prog w = .ok (.slice (some ⟨w.heap.size, 0, none⟩) 3 3) (w.alloc (.cells #[.slice A1 n1 c1, .slice A2 n2 c2, .slice A3 n3 c3] 43)) := by
  go_simp
theorem key_cell0 {w : World} {g : Nat} {t : TypeId} {o : Nat} {r s : List UInt8} (h : Blk w g t (keyCells o r s).toArray) : w.cell? ⟨g, 0, none⟩ = some (.int .u32 o) := by rw [h.cell]; rfl
theorem key_root {w : World} {g : Nat} {t : TypeId} {o : Nat} {r s : List UInt8} (h : Blk w g t (keyCells o r s).toArray) (hr : r.length = 32) : Rd w w.heap.size 1 (some ⟨g, 1, none⟩) 32 (bcells r) := by
  refine ⟨by rw [bcells_length, hr], fun k v hv => ⟨_, rfl, h.lt, ?_⟩⟩
  have hk := (List.getElem?_eq_some_iff.1 hv).1
  rw [Addr.add_mid, h.cell, Nat.add_comm 1 k]
  simp only [keyCells, List.getElem?_toArray, List.getElem?_cons_succ]
  rw [List.getElem?_append_left hk]; exact hv
theorem key_seed {w : World} {g : Nat} {t : TypeId} {o : Nat} {r s : List UInt8} (h : Blk w g t (keyCells o r s).toArray) (hr : r.length = 32) (hs : s.length = 32) : Rd w w.heap.size 1 (some ⟨g, 33, none⟩) 32 (bcells s) := by
  refine ⟨by rw [bcells_length, hs], fun k v hv => ⟨_, rfl, h.lt, ?_⟩⟩
  have hk := (List.getElem?_eq_some_iff.1 hv).1
  rw [Addr.add_mid, h.cell, show 33 + k = (32 + k) + 1 by omega]
  simp only [keyCells, List.getElem?_toArray, List.getElem?_cons_succ]
  rw [List.getElem?_append_right (by rw [bcells_length]; omega), bcells_length, hr, show 32 + k - 32 = k by omega]; exact hv

set_option maxRecDepth 100000 in
set_option maxHeartbeats 2000000 in
theorem putKey_yes (o : Nat) (r s : List UInt8) (hr : r.length = 32) (hs : s.length = 32) (hk : isKind o = true) (w : World) :
    Calls Tryd.prog 27 #[.agg (keyCells o r s).toArray] w fun e w' => ∃ A c, e = .returned (.tuple #[.slice A 68 c, .int .i64 0]) ∧ 68 ≤ c ∧ Rd w' w'.heap.size 1 A 68 (bcells (putKey o r s)) ∧ Below w.heap.size w w' := by
  have hb := Blk.new w 42 (keyCells o r s).toArray
  have B1 : Below w.heap.size w (w.alloc (.cells (keyCells o r s).toArray 42)) := (Below.refl _ _).alloc (Nat.le_refl _) _
  have c0 := key_cell0 hb
  have hR := key_root hb hr
  have hS := key_seed hb hr hs
  have hlt := hb.lt
  have hrl := Lib.hid hr
  have hsl := Lib.hid hs
  clear hr hs
  go_enter Tryd.func27, Tryd.ntmps27
  go_wp2_with fail
  generalize w.alloc (.cells (keyCells o r s).toArray 42) = W1 at *
  refine (mHeight_any o W1).mono ?_
  rintro e w' ⟨rfl, rfl⟩
  rw [hk]
  go_wp2_with fail
  have hR := hR.drew
  have hS := hS.drew
  have hb := hb.drew
  have hc0 : Hid (∀ W, Below W1.drew.heap.size W1.drew W → W.cell? ⟨w.heap.size, 0, none⟩ = some (.int .u32 o)) := Lib.hid fun W hB => key_cell0 (hb.below hB hlt)
  clear c0
  refine Flow.wp_region_flow (W1.drew.heap.size) [] [] (by kernel_rfl) (by kernel_rfl) (Nat.le_refl _) (fun _ h => by cases h) Flow.facts_nil ?_
  apply Flow.pass_val (hm := (Flow.met_none rfl))
  · intro a W hH
    have e0 := Flow.see_old 1 hH.sees (by kernel_rfl) (by kernel_rfl) rfl
    go_simp; first | done | rfl
  refine Flow.pass_val (.int .u32 (o : Nat)) (Flow.met_none rfl) (fun a W hH => ?_) ?_
  · have e0 := Flow.see_new 14 0 hH.sees (by kernel_rfl) (by kernel_rfl) rfl rfl
    have c0 := hc0.out W hH.below; go_simp
  apply Flow.pass_build (hkept := Flow.kept_of (Flow.kept_built _ _ _) Flow.kz_nil) (hm := (Flow.met_none rfl))
  · intro a W hH
    have e0 := Flow.see_new 15 1 hH.sees (by kernel_rfl) (by kernel_rfl) rfl rfl
    go_simp; first | done | rfl | exact ⟨rfl, rfl⟩
  refine Flow.pass_step (Flow.bytesC (0 + 4 * 1) ([] ++ putAll [o] 4 false)) (Flow.kept_of (Flow.kept_bytesC _ _) Flow.kz_nil) (Flow.met_none rfl) (fun a W hH => ?_) ?_
  · obtain ⟨b0, e0, q0⟩ := Flow.see_up 16 2 hH.sees (by kernel_rfl) (by kernel_rfl) rfl rfl
    refine Reg.wp_call rfl Tryd.func57 rfl (by kernel_rfl) (by simp [Act.eval, e0]) (putBe32_any none 0 0 [] W (some ⟨b0, 0, none⟩) 1 1 [o] (Rd.nil _ _ _ _) (by omega) (q0.rd rfl) (by omega)) ?_
    rintro e w' ⟨A9, c9, rfl, hO, hB⟩
    exact ⟨_, rfl, _, rfl, hB, A9, c9, rfl, Flow.own_le hO, Rd.of_own hO⟩
  apply Flow.pass_val (hm := (Flow.met_none rfl))
  · intro a W hH
    have e0 := Flow.see_old 1 hH.sees (by kernel_rfl) (by kernel_rfl) rfl
    go_simp; first | done | rfl
  apply Flow.pass_val (hm := (Flow.met_none rfl))
  · intro a W hH
    have e0 := Flow.see_new 18 4 hH.sees (by kernel_rfl) (by kernel_rfl) rfl rfl
    go_simp; first | done | rfl
  apply Flow.pass_val (hm := (Flow.met_none rfl))
  · intro a W hH
    have e0 := Flow.see_old 1 hH.sees (by kernel_rfl) (by kernel_rfl) rfl
    go_simp; first | done | rfl
  apply Flow.pass_val (hm := (Flow.met_none rfl))
  · intro a W hH
    have e0 := Flow.see_new 20 6 hH.sees (by kernel_rfl) (by kernel_rfl) rfl rfl
    go_simp; first | done | rfl
  refine Flow.pass_gen (fun v W => ∃ A c b, v = .slice (some ⟨b, 0, none⟩) 3 3 ∧ Blk W b 43 #[.slice A 4 c, .slice (some ⟨w.heap.size, 1, none⟩) 32 32, .slice (some ⟨w.heap.size, 33, none⟩) 32 32] ∧ Rd W W.heap.size 1 A 4 (bcells (putNum o 4 false))) (Flow.kept_of (fun _ _ _ c ⟨A, k, b, h1, h2, h3⟩ => ⟨A, k, b, h1, h2.ext c.ext, h3.ext c.ext⟩) Flow.kz_nil) (Flow.met_none rfl) (fun a W hH => ?_) ?_
  · obtain ⟨A0, c0, e0, q0⟩ := Flow.see_up 17 3 hH.sees (by kernel_rfl) (by kernel_rfl) rfl rfl
    have e1 := Flow.see_new 19 5 hH.sees (by kernel_rfl) (by kernel_rfl) rfl rfl
    have e2 := Flow.see_new 21 7 hH.sees (by kernel_rfl) (by kernel_rfl) rfl rfl
    refine Flow.wp_run (Flow.reg_buildSlice _ rfl (by simp [Act.eval, e0, e1, e2]) (run_buildBB W A0 4 c0 (some ⟨w.heap.size, 1, none⟩) 32 32 (some ⟨w.heap.size, 33, none⟩) 32 32)) ?_
    refine ⟨_, rfl, Chg.of_ext ((Ext.refl W).alloc _), A0, c0, W.heap.size, rfl, Blk.new _ _ _, ?_⟩
    have r0 := q0.2.ext ((Ext.refl W).alloc (.cells #[.slice A0 4 c0, .slice (some ⟨w.heap.size, 1, none⟩) 32 32, .slice (some ⟨w.heap.size, 33, none⟩) 32 32] 43))
    simpa [putAll] using r0
  refine Flow.pass_step (Flow.bytesC 68 (putKey o r s)) (Flow.kept_of (Flow.kept_bytesC _ _) Flow.kz_nil) (Flow.met_none rfl) (fun a W hH => ?_) ?_
  · obtain ⟨A0, c0, b0, e0, q0⟩ := Flow.see_up 22 8 hH.sees (by kernel_rfl) (by kernel_rfl) rfl rfl
    refine Reg.wp_call rfl Tryd.func56 rfl (by kernel_rfl) (by simp [Act.eval, e0]) (cat_any (some ⟨b0, 0, none⟩) 3 3 [⟨A0, 4, c0, putNum o 4 false⟩, ⟨some ⟨w.heap.size, 1, none⟩, 32, 32, r⟩, ⟨some ⟨w.heap.size, 33, none⟩, 32, 32, s⟩] W (q0.1.rd rfl) (by intro b hb; simp only [List.mem_cons, List.not_mem_nil, or_false] at hb; rcases hb with rfl | rfl | rfl <;> first | exact q0.2 | exact (hR.below hH.below).more hH.below.size | exact (hS.below hH.below).more hH.below.size) (by simp [Bs.tot]) (by omega)) ?_
    rintro e w' ⟨A9, c9, rfl, hO, hB⟩
    have hO1 : w'.ownsRow W.heap.size 5 1 (.slice A9 68 c9) 68 (bcells (putKey o r s)) := by simpa [Bs.tot, Bs.all, putKey] using hO
    exact ⟨_, rfl, _, rfl, hB, A9, c9, rfl, Flow.own_le hO1, Rd.of_own hO1⟩
  refine Flow.pass_copy 23 9 (Flow.met_none rfl) (.inr rfl) (by kernel_rfl) (by kernel_rfl) rfl rfl (Flow.kept_of (Flow.kept_bytesC _ _) Flow.kz_nil) ?_
  apply Flow.pass_val (hm := (Flow.met_none rfl))
  · intro a W hH
    go_simp; first | done | rfl
  refine Flow.pass_end [none, none, some 2, some 3, none, none, none, none, none, none, none, none, none, none, some 14, some 15, some 16, some 17, some 18, some 19, some 20, some 21, some 22, some 23] (by kernel_rfl) ?_
  intro f g w9 hB hfa hT hfg
  obtain ⟨A2, c2, h2, g2⟩ := hT 10 _ (by kernel_rfl) rfl
  rw [← hfg 2 10 (by kernel_rfl)] at h2
  have h3 : f 3 = _ := (hfg 3 11 (by kernel_rfl)).trans (hT 11 _ (by kernel_rfl) rfl)
  obtain ⟨hn, hr9⟩ := g2
  simp only [Reg.sel, h2, h3]
  clear hT hfg hfa h2 h3 hc0
  go_wp2
  go_ret2
  exact ⟨A2, c2, rfl, hn, hr9, (B1.drew).trans (hB.mono B1.size)⟩

set_option maxRecDepth 100000 in
set_option maxHeartbeats 1000000 in
theorem putKey_no (o : Nat) (r s : List UInt8) (hk : isKind o = false) (w : World) :
    Calls Tryd.prog 27 #[.agg (keyCells o r s).toArray] w fun e w' => e = .returned (.tuple #[.slice none 0 0, .int .i64 80]) ∧ Below w.heap.size w w' := by
  have hb := Blk.new w 42 (keyCells o r s).toArray
  have B1 : Below w.heap.size w (w.alloc (.cells (keyCells o r s).toArray 42)) := (Below.refl _ _).alloc (Nat.le_refl _) _
  have c0 := key_cell0 hb
  go_enter Tryd.func27, Tryd.ntmps27
  go_wp2_with fail
  generalize w.alloc (.cells (keyCells o r s).toArray 42) = W1 at *
  refine (mHeight_any o W1).mono ?_
  rintro e w' ⟨rfl, rfl⟩
  rw [hk]
  go_wp2
  go_ret2
  exact ⟨rfl, B1⟩
/-- a key's bytes, and the error's number -/
def putVal (o : Nat) (r s : List UInt8) : List UInt8 := if isKind o then putKey o r s else []
def putErr (o : Nat) : Int := if isKind o then 0 else 80
/-- bytes with an error's number, in memory of the call's own -/
def BytesErr (w : World) (L : List UInt8) (x : Int) (e : Ending) (w' : World) : Prop := ∃ A c, e = .returned (.tuple #[.slice A L.length c, .int .i64 x]) ∧ L.length ≤ c ∧ Rd w' w'.heap.size 1 A L.length (bcells L) ∧ Below w.heap.size w w'
theorem putKey_length (o : Nat) (r s : List UInt8) (hr : r.length = 32) (hs : s.length = 32) : (putKey o r s).length = 68 := by simp [putKey, putNum_length, hr, hs]
theorem putKey_any (o : Nat) (r s : List UInt8) (hr : r.length = 32) (hs : s.length = 32) (w : World) :
    Calls Tryd.prog 27 #[.agg (keyCells o r s).toArray] w (BytesErr w (putVal o r s) (putErr o)) := by
  cases hk : isKind o with
  | false =>
    rw [putVal, putErr, hk]
    exact (putKey_no o r s hk w).mono fun e w' ⟨he, hB⟩ => ⟨none, 0, he, Nat.le_refl _, Rd.nil _ _ _ _, hB⟩
  | true =>
    rw [putVal, putErr, hk]
    refine (putKey_yes o r s hr hs hk w).mono fun e w' ⟨A, c, he, hc, hR, hB⟩ => ⟨A, c, ?_, ?_, ?_, hB⟩ <;> simp only [if_true, putKey_length o r s hr hs] <;> assumption
end Go.Proofs.YtgfdjfglfipjfaaDoor
/-
  Walk of the statement XmssKeys.
-/
namespace Go.Proofs.YtgfdjfglfipjfaaDoor
open Go.RowKit

theorem keyEq (l : List UInt8) (w : World) : (binOp .eql 42 (.agg (keyVal l).toArray) (.agg (keyVal l).toArray)).run Tryd.prog w = .ok (.bool true) w := by
  have hform : ∃ o r s, keyVal l = keyCells o r s ∧ o < 4294967296 ∧ r.length = 32 ∧ s.length = 32 := by
    unfold keyVal
    split
    · rename_i h
      simp only [keyOk, Bool.and_eq_true, beq_iff_eq] at h
      exact ⟨_, _, _, rfl, rdNum_lt l 0 4 false, by simp; omega, by simp; omega⟩
    · exact ⟨0, _, _, rfl, by omega, rfl, rfl⟩
  obtain ⟨o, r, s, e, ho, hr, hs⟩ := hform
  rw [e]
  clear e
  have h65 : Tryd.prog.cellsOf 42 = 65 := by kernel_rfl
  have c1 : Tryd.prog.cellsOf 25 = 1 := by kernel_rfl
  have c32 : Tryd.prog.cellsOf 24 = 32 := by kernel_rfl
  have c8 : Tryd.prog.cellsOf 5 = 1 := by kernel_rfl
  have hlen : (keyCells o r s).length = 65 := by simp [keyCells, bcells_length, hr, hs]
  have wfo : (Lit.int .u32 (o : Int)).wf = true := by simp [Lit.wf, IntKind.min, IntKind.max, IntKind.bits, IntKind.signed]; omega
  have e : keyCells o r s = [[.int .u32 (o : Int)], bcells r, bcells s].flatten := by simp [keyCells]
  have k0 := keyLits_int (P := Tryd.prog) (d := 1) Tryd.underlying25 (o : Int) wfo
  have k1 := keyLits_bytes (P := Tryd.prog) (d := 0) Tryd.underlying24 Tryd.underlying5 c8 c32 r hr
  have k2 := keyLits_bytes (P := Tryd.prog) (d := 0) Tryd.underlying24 Tryd.underlying5 c8 c32 s hs
  have hk := keyLits_struct (P := Tryd.prog) (d := 2) Tryd.underlying42 (by kernel_rfl) [[.int .u32 (o : Int)], bcells r, bcells s] _ (by rw [← e, hlen, h65])
    (fits_cons rfl c1 k0 (fits_cons rfl (by rw [bcells_length, hr]; exact c32) k1 (fits_cons (by rw [bcells_length, hr]; rfl) (by rw [bcells_length, hs]; exact c32) k2 fits_nil)))
  exact run_eql_self (m := 4) (D := 3) w (by omega) (by kernel_rfl) (formed_agg Tryd.underlying42 rfl (by rw [h65]; simp [hlen])) (by rw [List.toList_toArray, e]; exact hk)

theorem keyVal_length (l : List UInt8) : (keyVal l).length = 65 := by
  unfold keyVal
  split
  · rename_i h
    simp only [keyOk, Bool.and_eq_true, beq_iff_eq] at h
    simp [keyCells, bcells_length]; omega
  · rfl
theorem keyVal_one (l : List UInt8) : ∀ v ∈ (keyVal l).toArray.toList, v.oneCell' = true := by
  unfold keyVal; split <;> exact keyCells_one _ _ _
theorem key65 : (Tryd.prog.info? 42).map (·.size) = some 65 := by kernel_rfl
theorem zero65 : Tryd.zeroCells42.size = 65 := by kernel_rfl
theorem keyGuard : Tryd.prog.eqGuardType Tryd.prog.depth 42 = false := by kernel_rfl
theorem strAt {w : World} {B : Nat} {A : Option Addr} {n c : Nat} {l : List UInt8} (h : Rd w B 1 A n (bcells l)) : (convert 43 9 (.slice A n c)).run Tryd.prog w = .ok (.string ⟨l.toArray⟩) w :=
  run_str w _ _ _ A n c l Tryd.underlying43 Tryd.underlying5 Tryd.underlying9 h

end Go.Proofs.YtgfdjfglfipjfaaDoor
/-
  Walk: xmss.SigOf of bytes of the right length.
-/
namespace Go.Proofs.YtgfdjfglfipjfaaDoor
open Go.RowKit

structure Sg where
  i : Nat
  r : List UInt8
  ots : List (List UInt8)
  auth : List (List UInt8)
def nodeAt (l : List UInt8) (k : Nat) : List UInt8 := (l.drop (36 + 32 * k)).take 32
def nodesAt (l : List UInt8) (p n : Nat) : List (List UInt8) := (List.range n).map fun k => nodeAt l (p + k)
theorem nodesAt_succ (l : List UInt8) (p n : Nat) : nodesAt l p (n + 1) = nodesAt l p n ++ [nodeAt l (p + n)] := by simp [nodesAt, List.range_succ]
theorem nodeAt_length (l : List UInt8) (k : Nat) (h : 36 + 32 * k + 32 ≤ l.length) : (nodeAt l k).length = 32 := by simp [nodeAt]; omega

theorem elN : Elem Tryd.prog 22 24 (.agg (bcells zeroNode0).toArray) 32 32 := Elem.of (by kernel_rfl) (by kernel_rfl) rfl (by omega)
theorem sg36 (idx : Nat) (r : List UInt8) (v1 v2 v3 : Value) (hr : r.length = 32) : (sigCells idx r v1 v2 ++ [v3]).toArray.size = 36 := by simp [sigCells, bcells_length, hr]
theorem sg_set33 (idx : Nat) (r : List UInt8) (v1 v2 v3 v : Value) (hr : r.length = 32) : (sigCells idx r v1 v2 ++ [v3]).toArray.setIfInBounds 33 v = (sigCells idx r v v2 ++ [v3]).toArray := by
  have hl : (bcells r).length = 32 := by rw [bcells_length]; exact hr
  simp [sigCells, hl]
theorem sg_set34 (idx : Nat) (r : List UInt8) (v1 v2 v3 v : Value) (hr : r.length = 32) : (sigCells idx r v1 v2 ++ [v3]).toArray.setIfInBounds 34 v = (sigCells idx r v1 v ++ [v3]).toArray := by
  have hl : (bcells r).length = 32 := by rw [bcells_length]; exact hr
  simp [sigCells, hl]
theorem run_node1 (w : World) (nd : List UInt8) (h : nd.length = 32) : (Instr.buildSlice 22 1 #[(0, .agg (bcells nd).toArray)]).run Tryd.prog w = .ok (.slice (some ⟨w.heap.size, 0, none⟩) 1 1) (w.alloc (.cells (bcells nd).toArray 24)) := by
  have := run_buildSlice_all (P := Tryd.prog) w elN 1 #[(0, .agg (bcells nd).toArray)] [.agg (bcells nd).toArray] rfl rfl (by omega) (by omega) (by simp [Value.cells, bcells_length, h])
  simpa [flat, Value.cells] using this

/-- append(l, n), n laid in a new block ahead -/
theorem wpList_appNode {ops : Array Oper} {rest : List Oper} {o : Oper} {a : Act} {Q : Exit → Act → World → Prop} (W : World) (hgd : o.guard = none) (s x : Operand) (ho : o.op = .call { callee := .builtin .append, args := #[s, x], argTypes := #[22, 22] })
    (base : Nat) (A : Option Addr) (k c : Nat) (ns : List (List UInt8)) (nd : List UInt8) (hnd : nd.length = 32) (hs : a.eval s = .slice A k c) (hown : W.ownsRow base 24 32 (.slice A k c) k (ncells ns))
    (hx : a.eval x = .slice (some ⟨W.heap.size, 0, none⟩) 1 1) (hk : k ≤ 100000) (hbase : base ≤ W.heap.size)
    (h : ∀ A1 c1 W5, W5.ownsRow base 24 32 (.slice A1 (k + 1) c1) (k + 1) (ncells (ns ++ [nd])) → Chg (fun b => (Value.slice A k c).ownBlock = some b) W W5 → Below base W W5 →
      (∀ b, (Value.slice A1 (k + 1) c1).ownBlock = some b → (Value.slice A k c).ownBlock = some b ∨ W.heap.size ≤ b) → wpList Tryd.prog ops Q rest (a.put o.dst (.slice A1 (k + 1) c1)) W5) :
    wpList Tryd.prog ops Q (o :: rest) a (W.alloc (.cells (bcells nd).toArray 24)) := by
  have hB := Blk.new W 24 (bcells nd).toArray
  refine wpList_app (W.alloc (.cells (bcells nd).toArray 24)) elN hgd s x ho base A k c _ hs (hown.alloc _) _ (some ⟨W.heap.size, 0, none⟩) 1 1 (bcells nd) hx
    (by have := hB.rd (size := 32) (n := 1) (by simp [bcells_length, hnd]); simpa using this) (bcells_one nd) (by omega) (by omega) (by simp; omega) ?_
  intro A1 c1 W5 hO5 hg5 hB5 hob
  refine h A1 c1 W5 (by rw [ncells_snoc]; exact hO5) ((Chg.of_ext ((Ext.refl W).alloc _)).trans (Chg.grown hg5 fun b hb => hb)) (((Below.refl base W).alloc hbase _).trans hB5) fun b hb => ?_
  rcases hob with h4 | h4
  · left; rw [← h4]; exact hb
  · right; rw [hb] at h4; cases h4; simp
end Go.Proofs.YtgfdjfglfipjfaaDoor
/-
  Walk: xmss.SigOf of bytes of the right length: the loops.
-/
namespace Go.Proofs.YtgfdjfglfipjfaaDoor
open Go.RowKit

def zsig : Array Value := (sigCells 0 zeroNode0 (.slice none 0 0) (.slice none 0 0)).toArray
theorem run_sig35 (idx : Nat) (r : List UInt8) (w : World) (hr : r.length = 32) : (Instr.build 76 #[(0, .int .u32 idx), (1, .agg (bcells r).toArray)]).run Tryd.prog w = .ok (.agg (sigCells idx r (.slice none 0 0) (.slice none 0 0)).toArray) w := by
  have hl : (flat [.int .u32 idx, .agg (bcells r).toArray]) = .int .u32 idx :: bcells r := by simp [flat, Value.cells]
  have hn : (Value.int .u32 idx :: bcells r).length = 33 := by simp [bcells_length, hr]
  have := run_build_rows (P := Tryd.prog) w (t := 76) (z := zsig) #[(0, .int .u32 idx), (1, .agg (bcells r).toArray)] [.int .u32 idx, .agg (bcells r).toArray] [(0, 1), (1, 32), (33, 1), (34, 1)]
    Tryd.underlying76 (by kernel_rfl) (by kernel_rfl) rfl (by simp [Rows1, Value.cells, bcells_length, hr]) (by rw [hl, hn]; exact of_decide_eq_true (by kernel_rfl))
  rw [hl, hn] at this
  rw [this]
  have e : zsig.toList.drop 33 = [.slice none 0 0, .slice none 0 0] := by kernel_rfl
  rw [e]
  simp [sigCells]
theorem run_sig36 (idx : Nat) (r : List UInt8) (v1 v2 : Value) (h : Nat) (w : World) (hr : r.length = 32) :
    (Instr.build 116 #[(0, .agg (sigCells idx r v1 v2).toArray), (1, .int .i64 h)]).run Tryd.prog w = .ok (.agg (sigCells idx r v1 v2 ++ [Value.int .i64 h]).toArray) w := by
  have hl : (flat [.agg (sigCells idx r v1 v2).toArray, .int .i64 h]) = sigCells idx r v1 v2 ++ [Value.int .i64 h] := by simp [flat, Value.cells]
  have hn : (sigCells idx r v1 v2 ++ [Value.int .i64 h]).length = 36 := by simp [sigCells, bcells_length, hr]
  have := run_build_rows (P := Tryd.prog) w (t := 116) (z := zsig ++ #[.int .i64 0]) #[(0, .agg (sigCells idx r v1 v2).toArray), (1, .int .i64 h)] [.agg (sigCells idx r v1 v2).toArray, .int .i64 h] [(0, 35), (35, 1)]
    Tryd.underlying116 (by kernel_rfl) (by kernel_rfl) rfl (by simp [Rows1, Value.cells, sigCells, bcells_length, hr]) (by rw [hl, hn]; exact of_decide_eq_true (by kernel_rfl))
  rw [hl, hn] at this
  rw [this]
  have e : (zsig ++ #[Value.int .i64 0]).toList.drop 36 = [] := by kernel_rfl
  rw [e]
  simp
theorem inf35 : (Tryd.prog.info? 76).map (·.size) = some 35 := by kernel_rfl
theorem inf36 : (Tryd.prog.info? 116).map (·.size) = some 36 := by kernel_rfl
theorem sg_one (idx : Nat) (r : List UInt8) (v1 v2 v3 : Value) (h1 : v1.oneCell' = true) (h2 : v2.oneCell' = true) (h3 : v3.oneCell' = true) : ∀ v ∈ (sigCells idx r v1 v2 ++ [v3]).toArray.toList, v.oneCell' = true := by
  intro v hv
  simp only [sigCells, List.mem_append, List.mem_cons, List.not_mem_nil, or_false] at hv
  rcases hv with (rfl | h | rfl | rfl) | rfl
  · rfl
  · exact bcells_one _ v h
  all_goals assumption
theorem sg35_one (idx : Nat) (r : List UInt8) (v1 v2 : Value) (h1 : v1.oneCell' = true) (h2 : v2.oneCell' = true) : ∀ v ∈ (sigCells idx r v1 v2).toArray.toList, v.oneCell' = true := by
  intro v hv
  simp only [sigCells, List.mem_append, List.mem_cons, List.not_mem_nil, or_false] at hv
  rcases hv with rfl | h | rfl | rfl
  · rfl
  · exact bcells_one _ v h
  all_goals assumption
/-- the cutter's box: what is left behind p nodes -/
def Box (w wr : World) (gx : Nat) (l : List UInt8) (p : Nat) : Prop :=
  ∃ Ax cx, Blk wr gx 43 #[.slice Ax (l.length - (36 + 32 * p)) cx] ∧ l.length - (36 + 32 * p) ≤ cx ∧ Rd w w.heap.size 1 Ax (l.length - (36 + 32 * p)) (bcells (l.drop (36 + 32 * p)))
def Loop1 (w : World) (g13 gx idx : Nat) (r l : List UInt8) (h k : Nat) (wr : World) : Prop :=
  Box w wr gx l k ∧ Below w.heap.size w wr ∧ Blk wr w.heap.size 76 zsig ∧
  ∃ A c, Blk wr g13 116 (sigCells idx r (.slice A k c) (.slice none 0 0) ++ [Value.int .i64 h]).toArray ∧ wr.ownsRow w.heap.size 24 32 (.slice A k c) k (ncells (nodesAt l 0 k))
def Loop2 (w : World) (g13 gx idx : Nat) (r l : List UInt8) (h k : Nat) (wr : World) : Prop :=
  Box w wr gx l (67 + k) ∧ Below w.heap.size w wr ∧ Blk wr w.heap.size 76 zsig ∧
  ∃ Ao co A c, Blk wr g13 116 (sigCells idx r (.slice Ao 67 co) (.slice A k c) ++ [Value.int .i64 h]).toArray ∧ wr.ownsRow w.heap.size 24 32 (.slice A k c) k (ncells (nodesAt l 67 k)) ∧
    wr.ownsRow w.heap.size 24 32 (.slice Ao 67 co) 67 (ncells (nodesAt l 0 67)) ∧ ∀ b, (Value.slice Ao 67 co).ownBlock = some b → ¬ (Value.slice A k c).ownBlock = some b

/-- what comes of bytes of the right length -/
def SigEnd (w : World) (l : List UInt8) (o idx : Nat) (r : List UInt8) (e : Ending) (w' : World) : Prop :=
  if idx < 2 ^ hgt o then ∃ A1 c1 A2 c2, e = .returned (.tuple #[.agg (sigCells idx r (.slice A1 67 c1) (.slice A2 (hgt o) c2)).toArray, .int .i64 0]) ∧
      67 ≤ c1 ∧ hgt o ≤ c2 ∧ Rd w' w'.heap.size 32 A1 67 (ncells (nodesAt l 0 67)) ∧ Rd w' w'.heap.size 32 A2 (hgt o) (ncells (nodesAt l 67 (hgt o))) ∧ Below w.heap.size w w'
  else e = .returned (.tuple #[.agg zsig, .int .i64 81]) ∧ Below w.heap.size w w'

set_option maxRecDepth 100000 in
set_option maxHeartbeats 8000000 in
theorem mSigOf_in (A : Option Addr) (c0 : Nat) (l : List UInt8) (o : Nat) (w : World) (h : Rd w w.heap.size 1 A l.length (bcells l)) (hc : l.length ≤ c0) (hk : isKind o = true) (hl : l.length = 36 + 32 * (67 + hgt o))
    (idx : Nat) (hidx : idx = rdNum l 0 4 false) (r : List UInt8) (hr : r = (l.drop 4).take 32) :
    Calls Tryd.prog 49 #[.slice A l.length c0, .int .u32 o] w (SigEnd w l o idx r) := by
  have hh : hgt o ≤ 20 := by unfold hgt; split <;> (try split) <;> (try split) <;> omega
  have hz : (sigSize o : Int) = (l.length : Nat) := by rw [hl]; simp [sigSize, hk]
  have rL : Hid (r.length = 32) := Lib.hid (by rw [hr]; simp; omega)
  have HR := Lib.hid hr
  have HI := Lib.hid hidx
  have HL := Lib.hid hl
  have HH := Lib.hid hh
  have hb35 := fun W => run_sig35 idx r W rL.out
  have hb36 := fun W => run_sig36 idx r (.slice none 0 0) (.slice none 0 0) (hgt o) W rL.out
  clear hr hidx hl hh
  go_enter Tryd.func49, Tryd.ntmps49
  go_wp2_with fail
  change Calls _ _ _ (w.alloc (.cells zsig 76)) _
  have B0 : Below w.heap.size w (w.alloc (.cells zsig 76)) := (Below.refl _ _).alloc (Nat.le_refl _) _
  have hb0 := Blk.new w 76 zsig
  have s0 : Hid ((w.alloc (.cells zsig 76)).heap.size = w.heap.size + 1) := Lib.hid (by simp)
  generalize w.alloc (.cells zsig 76) = W0 at *
  refine (mHeight_any o W0).mono ?_
  rintro e w' ⟨rfl, rfl⟩
  rw [hk]
  go_wp2_with fail
  refine (mSize_any o W0).mono ?_
  rintro e w' ⟨rfl, rfl⟩
  rw [hk, hz]
  go_wp2_with fail
  refine (be32_any A l.length c0 0 l W0 ((h.below B0).more B0.size) (by have := HL.out; have := HH.out; omega)).mono ?_
  rintro e w' ⟨rfl, rfl⟩
  rw [← HI.out]
  have hl36 : 36 ≤ l.length := by have := HL.out; omega
  have h4 : ¬ c0 = 4 := by omega
  have hR4 := cutTo_on (A := A) (n := l.length) (k := 4) (by omega) hc h4 _ _ _ h
  go_wp2_with fail
  generalize Option.map (fun x : Addr => (⟨x.block, x.off + 4, none⟩ : Addr)) A = A4 at *
  refine (cutter_any A4 (l.length - 4) (c0 - 4) W0).mono ?_
  rintro e W1 ⟨rfl, hx1, hE1, hs1⟩
  have HS1 := Lib.hid hs1
  clear hs1
  have B1 := B0.trans (hE1.below B0.size)
  have hb1 := hb0.ext hE1
  go_wp2_with fail
  refine (cut_any W0.heap.size A4 (l.length - 4) (c0 - 4) W1 hx1 (by omega) (by omega)).mono ?_
  rintro e W2 ⟨A5, hC5, rfl, hx2, hg2, hs2⟩
  have HS2 := Lib.hid hs2
  clear hs2
  have B2 := grown_below B1 hg2 (by have := B0.size; have := HS1.out; omega) B0.size
  have hb2 := hb1.grown hg2 (by simp; have := s0.out; omega)
  have hR36 := hC5 _ _ _ hR4
  have hrr : Rd W2 w.heap.size 1 A4 32 (bcells r) := by
    have := (hR4.front (k := 32) (by omega)).below B2
    rw [HR.out]
    simp only [bcells, List.map_take, List.map_drop, Nat.mul_one] at this ⊢
    exact this
  obtain ⟨rb, ro, rfl, _, hrange⟩ := hrr.range (by omega)
  have hl32 : Hid ((bcells r).length = 32) := Lib.hid (by rw [bcells_length]; exact rL.out)
  have harr := fun W => run_arrayAt (P := Tryd.prog) W Tryd.underlying24 (some ⟨rb, ro, none⟩) 32 (c0 - 4) (Nat.le_refl _)
  have hsg := Blk.new W2 116 (zsig ++ #[Value.int .i64 0])
  have hk36 : Hid ((sigCells idx r (.slice none 0 0) (.slice none 0 0) ++ [Value.int .i64 (hgt o)]).toArray.size = 36) := Lib.hid (by simp [sigCells, bcells_length, rL.out])
  clear hR4 hC5 hx1 hE1 hg2 hb0 hb1
  go_wp2_with (first
    | ((with_reducible refine at_load 24 ?_); refine wpList_load_mid rfl 24 _ rfl rb ro rfl (bcells r) _ hrange Tryd.underlying24 rfl (by rw [hl32.out]; exact infNode) ?_)
    | ((with_reducible refine at_build 76 ?_); refine wpList_buildV W2 rfl #[(0, .int .u32 idx), (1, .agg (bcells r).toArray)] rfl ?_ (hb35 W2) ?_; (simp [Act.eval, Act.put]))
    | ((with_reducible refine at_build 116 ?_); refine wpList_buildV W2 rfl #[(0, .agg (sigCells idx r (.slice none 0 0) (.slice none 0 0)).toArray), (1, .int .i64 (hgt o : Nat))] rfl ?_ (hb36 W2) ?_; (simp [Act.eval]))
    | ((with_reducible refine at_store 116 ?_); refine wpList_storeAll _ rfl 116 _ _ rfl W2.heap.size 116 _ _ hsg rfl rfl (by rw [hk36.out]; kernel_rfl) (by rw [hk36.out]; exact inf36) (sg_one _ _ _ _ _ rfl rfl rfl) ?_; intro W3 hb3 hg3 hs3))
  have hgx0 : w.heap.size ≤ W0.heap.size := B0.size
  have hg0 : w.heap.size ≤ W2.heap.size := B2.size
  have hgg : ¬ W2.heap.size = W0.heap.size := by have := HS1.out; have := HS2.out; omega
  have hgw : ¬ W2.heap.size = w.heap.size := by have := HS1.out; have := HS2.out; have := s0.out; omega
  have hgw' : ¬ W0.heap.size = w.heap.size := by have := s0.out; omega
  have B3 := grown_below (B2.alloc B2.size _) hg3 (by have := B2.size; simp; omega) B2.size
  have hx3 := (hx2.alloc (.cells (zsig ++ #[Value.int .i64 0]) 116)).grown hg3 (by simp; omega)
  have hz3 := (hb2.alloc (.cells (zsig ++ #[Value.int .i64 0]) 116)).grown hg3 (by simp; omega)
  have start : Loop1 w W2.heap.size W0.heap.size idx r l (hgt o) 0 W3 := by
    refine ⟨⟨A5, c0 - 4 - 32, ?_, by omega, ?_⟩, B3, hz3, none, 0, hb3, World.ownsRow_nil _ _ _ _⟩
    · rw [show l.length - (36 + 32 * 0) = l.length - 4 - 32 by omega]; exact hx3
    · rw [show l.length - (36 + 32 * 0) = l.length - 4 - 32 by omega]
      simp only [bcells, List.map_drop, List.drop_drop] at hR36 ⊢
      exact hR36
  generalize W2.heap.size = g13 at *
  generalize W0.heap.size = gx at *
  clear hsg hrange hg3 hs3 B3 hx3 hz3 hb3 hb2 hx2 hR36 hrr HS1 HS2 s0 B2 B1 B0 harr hb35 hb36
  go_loopw [48] (fun i wr => ∃ k : Nat, k ≤ 67 ∧ i = .int .i64 k ∧ Loop1 w g13 gx idx r l (hgt o) k wr) (fun i _ => 67 - (intOf i).toNat)
  case atStart => exact ⟨0, by omega, rfl, start⟩
  case round =>
    obtain ⟨k, hk67, rfl, hrel⟩ := hrel
    by_cases hlt : k < 67
    · go_wp2_with fail
      obtain ⟨⟨Ax, cx, hX, hncx, hRx⟩, B9, hZ, A, c, hS, hO⟩ := hrel
      obtain ⟨nx, hnxe⟩ : ∃ nx, nx = l.length - (36 + 32 * k) := ⟨_, rfl⟩
      rw [← hnxe] at hX hncx hRx
      have HNX := Lib.hid hnxe
      clear hnxe
      have hnx : 32 ≤ nx := by have := HNX.out; have := HL.out; omega
      have hszw := B9.size
      have hgl := hS.lt
      have hog : ¬ (Value.slice A k c).ownBlock = some g13 := fun e => own_ne hO hS (by decide) e rfl
      have hox : ¬ (Value.slice A k c).ownBlock = some gx := fun e => own_ne hO hX (by decide) e rfl
      have hoz : ¬ (Value.slice A k c).ownBlock = some w.heap.size := fun e => own_ne hO hZ (by decide) e rfl
      obtain ⟨ns, hns⟩ : ∃ ns, ns = nodesAt l 0 k := ⟨_, rfl⟩
      rw [← hns] at hO
      obtain ⟨nd, hnde⟩ : ∃ nd, nd = nodeAt l k := ⟨_, rfl⟩
      have hnd : Rd wr.drew w.heap.size 1 Ax 32 (bcells nd) := by
        have := ((hRx.front (k := 32) (by omega)).below B9).drew
        rw [hnde, nodeAt]
        simp only [bcells, List.map_take, List.map_drop, Nat.mul_one] at this ⊢
        exact this
      have ndL : Hid (nd.length = 32) := Lib.hid (by rw [hnde]; exact nodeAt_length l k (by have := HL.out; omega))
      have HNS := Lib.hid hns
      have HND := Lib.hid hnde
      clear hns hnde
      refine Flow.wp_region_flow (w.heap.size) [(4, fun b => b = gx), (8, fun b => (Value.slice A k c).ownBlock = some b), (11, fun b => b = g13)] [(2, fun W => Blk W g13 116 (sigCells idx r (.slice A k c) (.slice none 0 0) ++ [Value.int .i64 (hgt o)]).toArray), (4, fun W => Blk W gx 43 #[.slice Ax nx cx]), (8, fun W => W.ownsRow w.heap.size 24 32 (.slice A k c) k (ncells ns)), (11, fun W => Blk W g13 116 (sigCells idx r (.slice A k c) (.slice none 0 0) ++ [Value.int .i64 (hgt o)]).toArray), (12, fun W => Blk W w.heap.size 76 zsig)] (by kernel_rfl) (by kernel_rfl) B9.size (Flow.nz_cons (by rintro b rfl; exact hgx0) (Flow.nz_cons (fun b hb => (own_some hO hb).1) (Flow.nz_cons (by rintro b rfl; exact hg0) Flow.nz_nil))) (Flow.facts_cons (hS.drew) (Flow.kept_blk id) (Flow.fz_cons (fun _ => Flow.kept_blk hgg) (Flow.fz_cons (Flow.no_follow (by kernel_rfl)) (Flow.fz_cons (Flow.no_follow (by kernel_rfl)) Flow.fz_nil))) (Flow.facts_cons (hX.drew) (Flow.kept_blk id) (Flow.fz_cons (Flow.no_follow (by kernel_rfl)) (Flow.fz_cons (Flow.no_follow (by kernel_rfl)) (Flow.fz_cons (Flow.no_follow (by kernel_rfl)) Flow.fz_nil))) (Flow.facts_cons (hO.drew) (Flow.kept_own (fun _ _ => id)) (Flow.fz_cons (fun _ => Flow.kept_own (fun b hb e => hox (e ▸ hb))) (Flow.fz_cons (Flow.no_follow (by kernel_rfl)) (Flow.fz_cons (Flow.no_follow (by kernel_rfl)) Flow.fz_nil))) (Flow.facts_cons (hS.drew) (Flow.kept_blk id) (Flow.fz_cons (fun _ => Flow.kept_blk hgg) (Flow.fz_cons (fun _ => Flow.kept_blk hog) (Flow.fz_cons (Flow.no_follow (by kernel_rfl)) Flow.fz_nil))) (Flow.facts_cons (hZ.drew) (Flow.kept_blk id) (Flow.fz_cons (fun _ => Flow.kept_blk (fun e => hgw' e.symm)) (Flow.fz_cons (fun _ => Flow.kept_blk hoz) (Flow.fz_cons (fun _ => Flow.kept_blk (fun e => hgw e.symm)) Flow.fz_nil))) Flow.facts_nil))))) ?_
      apply Flow.pass_val (hm := (Flow.met_none rfl))
      · intro a W hH
        have e0 := Flow.see_old 13 hH.sees (by kernel_rfl) (by kernel_rfl) rfl
        go_simp; first | done | rfl
      refine Flow.pass_val (.pointer (some ⟨g13, 33, none⟩)) (Flow.met_none rfl) (fun a W hH => ?_) ?_
      · have e0 := Flow.see_new 50 0 hH.sees (by kernel_rfl) (by kernel_rfl) rfl rfl
        go_simp
      refine Flow.pass_val (.slice A k c) (Flow.met_none rfl) (fun a W hH => ?_) ?_
      · have e0 := Flow.see_new 51 1 hH.sees (by kernel_rfl) (by kernel_rfl) rfl rfl
        have fa0 : (fun W => Blk W g13 116 (sigCells idx r (.slice A k c) (.slice none 0 0) ++ [Value.int .i64 (hgt o)]).toArray) W := hH.fact _ (List.mem_of_getElem? (i := 0) rfl) rfl
        have cf := (sig_cell rL.out fa0).2.1; go_simp
      refine Flow.pass_old (X := .func (.func 89) #[] #[.pointer (some ⟨gx, 0, none⟩)]) 12 (Flow.met_none rfl) (.inl rfl) (by kernel_rfl) (by kernel_rfl) rfl ?_
      refine Flow.pass_gen (fun v W => ∃ A2, v = .slice Ax 32 cx ∧ (CutTo Ax A2 nx 32 ∧ Blk W gx 43 #[.slice A2 (nx - 32) (cx - 32)])) (Flow.kept_of (fun _ _ _ c ⟨A2, h1, h2, h3⟩ => ⟨A2, h1, h2, h3.chg c id⟩) (Flow.kz_cons (Flow.no_follow (by kernel_rfl)) (Flow.kz_cons (fun _ => fun _ _ _ c ⟨A2, h1, h2, h3⟩ => ⟨A2, h1, h2, h3.chg c hox⟩) (Flow.kz_cons (fun _ => fun _ _ _ c ⟨A2, h1, h2, h3⟩ => ⟨A2, h1, h2, h3.chg c (fun e => hgg e.symm)⟩) Flow.kz_nil)))) (Flow.met_none rfl) (fun a W hH => ?_) ?_
      · have e0 := Flow.see_new 53 3 hH.sees (by kernel_rfl) (by kernel_rfl) rfl rfl
        have fa1 : (fun W => Blk W gx 43 #[.slice Ax nx cx]) W := hH.fact _ (List.mem_of_getElem? (i := 1) rfl) rfl
        refine Flow.wp_callF rfl e0 Tryd.func89 rfl (by kernel_rfl) (by simp [Act.eval]) (cut_any gx Ax nx cx W fa1 hnx hncx) ?_
        rintro e w' ⟨A2, hC, rfl, hb2, hg2, _⟩
        exact ⟨_, rfl, Chg.grown hg2 (by rintro k h; cases h; rfl), A2, rfl, hC, hb2⟩
      refine Flow.pass_val (.pointer Ax) (Flow.met_none rfl) (fun a W hH => ?_) ?_
      · obtain ⟨A20, e0, q0⟩ := Flow.see_up 54 4 hH.sees (by kernel_rfl) (by kernel_rfl) rfl rfl
        exact Flow.reg_array _ rfl e0 Tryd.underlying24 (Nat.le_refl _)
      refine Flow.pass_val (.agg (bcells nd).toArray) (Flow.met_none rfl) (fun a W hH => ?_) ?_
      · have e0 := Flow.see_new 55 5 hH.sees (by kernel_rfl) (by kernel_rfl) rfl rfl
        exact reg_loadRd 24 _ rfl e0 (hnd.below hH.below) Tryd.underlying24 rfl (by rw [List.size_toArray, bcells_length, ndL.out]; exact infNode) (by rw [bcells_length, ndL.out]; omega)
      refine Flow.pass_gen (fun v W => ∃ b, v = .slice (some ⟨b, 0, none⟩) 1 1 ∧ (wr.heap.size ≤ b ∧ Blk W b 24 (bcells nd).toArray)) (Flow.kept_of (fun _ _ _ c ⟨b, h1, h2, h3⟩ => ⟨b, h1, h2, h3.chg c id⟩) (Flow.kz_cons (Flow.no_follow (by kernel_rfl)) (Flow.kz_cons (fun _ => fun _ _ _ c ⟨b, h1, h2, h3⟩ => ⟨b, h1, h2, h3.chg c (fun hb => by have := (own_some hO hb).2; omega)⟩) (Flow.kz_cons (fun _ => fun _ _ _ c ⟨b, h1, h2, h3⟩ => ⟨b, h1, h2, h3.chg c (fun e => by have e2 : b = g13 := e; omega)⟩) Flow.kz_nil)))) (Flow.met_none rfl) (fun a W hH => ?_) ?_
      · have e0 := Flow.see_new 56 6 hH.sees (by kernel_rfl) (by kernel_rfl) rfl rfl
        refine Flow.wp_run (Flow.reg_buildSlice _ rfl (by simp [Act.eval, e0]) (run_node1 W nd ndL.out)) ?_
        exact ⟨_, rfl, Chg.of_ext ((Ext.refl W).alloc _), W.heap.size, rfl, hH.below.size, Blk.new _ _ _⟩
      refine Flow.pass_list (fun v W => ∃ A1 c1, v = .slice A1 (k + 1) c1 ∧ (W.ownsRow w.heap.size 24 32 (.slice A1 (k + 1) c1) (k + 1) ((ncells ns) ++ bcells nd) ∧ ∀ b, (Value.slice A1 (k + 1) c1).ownBlock = some b → (Value.slice A k c).ownBlock = some b ∨ wr.heap.size ≤ b)) (Flow.kept_of (fun _ _ _ c ⟨A1, c1, h1, h2, h3⟩ => ⟨A1, c1, h1, own_chg h2 c (fun _ _ => id), h3⟩) (Flow.kz_cons (Flow.no_follow (by kernel_rfl)) (Flow.kz_cons (Flow.no_follow (by kernel_rfl)) (Flow.kz_cons (fun _ => fun _ _ _ c ⟨A1, c1, h1, h2, h3⟩ => ⟨A1, c1, h1, own_chg h2 c (fun b hb e => by have e2 : b = g13 := e; subst e2; rcases h3 _ hb with h4 | h4; exact hog h4; omega), h3⟩) Flow.kz_nil)))) (Flow.met_none rfl) (fun a W hH => ?_) ?_
      · have e0 := Flow.see_new 52 2 hH.sees (by kernel_rfl) (by kernel_rfl) rfl rfl
        obtain ⟨b1, e1, q1⟩ := Flow.see_up 57 7 hH.sees (by kernel_rfl) (by kernel_rfl) rfl rfl
        have fa2 : (fun W => W.ownsRow w.heap.size 24 32 (.slice A k c) k (ncells ns)) W := hH.fact _ (List.mem_of_getElem? (i := 2) rfl) rfl
        refine wpList_app W elN rfl _ _ rfl w.heap.size A k c _ (by simpa [Act.eval] using e0) fa2 W.heap.size (some ⟨b1, 0, none⟩) 1 1 (bcells nd) (by simpa [Act.eval] using e1) (by have := q1.2.rd (size := 32) (n := 1) (by simp [bcells_length, ndL.out]); simpa using this) (bcells_one nd) (by omega) (by omega) (Nat.le_trans hszw hH.below.size) ?_
        intro A1 c1 W2 hO2 hg hB hob
        refine Flow.qq_nil ⟨_, rfl, Chg.grown hg (fun b hb => hb), A1, c1, rfl, hO2, fun b hb => ?_⟩
        rcases hob with h4 | h4
        · left; rw [← h4]; exact hb
        · right; rw [hb] at h4; cases h4; exact hH.below.size
      apply Flow.pass_val (hm := (Flow.met_none rfl))
      · intro a W hH
        have e0 := Flow.see_old 13 hH.sees (by kernel_rfl) (by kernel_rfl) rfl
        go_simp; first | done | rfl
      refine Flow.pass_val (.pointer (some ⟨g13, 33, none⟩)) (Flow.met_none rfl) (fun a W hH => ?_) ?_
      · have e0 := Flow.see_new 59 9 hH.sees (by kernel_rfl) (by kernel_rfl) rfl rfl
        go_simp
      refine Flow.pass_gen (fun _ W => ∃ A1 c1, Blk W g13 116 (sigCells idx r (.slice A1 (k + 1) c1) (.slice none 0 0) ++ [Value.int .i64 (hgt o)]).toArray ∧ (W.ownsRow w.heap.size 24 32 (.slice A1 (k + 1) c1) (k + 1) ((ncells ns) ++ bcells nd) ∧ ∀ b, (Value.slice A1 (k + 1) c1).ownBlock = some b → (Value.slice A k c).ownBlock = some b ∨ wr.heap.size ≤ b)) (Flow.kept_of (fun _ _ _ c ⟨A1, c1, h1, h2, h3⟩ => ⟨A1, c1, h1.chg c id, own_chg h2 c (fun _ _ => id), h3⟩) (Flow.kz_cons (Flow.no_follow (by kernel_rfl)) (Flow.kz_cons (Flow.no_follow (by kernel_rfl)) (Flow.kz_cons (Flow.no_follow (by kernel_rfl)) Flow.kz_nil)))) (Flow.met_none rfl) (fun a W hH => ?_) ?_
      · have e0 := Flow.see_new 60 10 hH.sees (by kernel_rfl) (by kernel_rfl) rfl rfl
        obtain ⟨A11, c11, e1, q1⟩ := Flow.see_up 58 8 hH.sees (by kernel_rfl) (by kernel_rfl) rfl rfl
        have fa3 : (fun W => Blk W g13 116 (sigCells idx r (.slice A k c) (.slice none 0 0) ++ [Value.int .i64 (hgt o)]).toArray) W := hH.fact _ (List.mem_of_getElem? (i := 3) rfl) rfl
        refine wp_skip (reg_storeSlice rfl (by kernel_rfl) fa3 e0 e1 (by rw [sg36 idx r _ _ _ rL.out]; omega)) ?_
        obtain ⟨hO2, hob⟩ := q1
        refine ⟨_, rfl, Chg.grown (grown_set W g13 33 _) (by rintro k h; cases h; rfl), A11, c11, ?_, own_chg hO2 (Chg.grown (grown_set W g13 33 _) (Z := fun b => b = g13) (by rintro k h; cases h; rfl)) (fun b hb e => by have e2 : b = g13 := e; subst e2; rcases hob _ hb with h4 | h4; exact hog h4; omega), hob⟩
        have := fa3.set_ 33 (.slice A11 (k + 1) c11)
        rwa [sg_set33 idx r _ _ _ _ rL.out] at this
      refine Flow.pass_end [none, none, none, none, none, none, none, none, none, none, none, none, none, none, none, none, none, none, none, none, none, none, none, none, none, none, none, none, none, none, none, none, none, none, none, none, none, none, none, none, none, none, none, none, none, none, none, none, none, none, some 50, some 51, some 52, some 53, some 54, some 55, some 56, some 57, some 58, some 59, some 60, none, none, none, none, none, none, none, none, none, none, none, none, none, none, none, none, none, none, none, none, none, none] (by kernel_rfl) ?_
      intro f g w9 hB hfa hT hfg
      have F4 : (fun W => Blk W w.heap.size 76 zsig) w9 := hfa _ (List.mem_of_getElem? (i := 4) rfl) (Nat.le_refl _)
      obtain ⟨A2, _, hC2, hb2⟩ := hT 4 _ (by kernel_rfl) rfl
      obtain ⟨A3, c3, hS3, hO3, _⟩ := hT 11 _ (by kernel_rfl) rfl
      have nxt : Loop1 w g13 gx idx r l (hgt o) (k + 1) w9 := by
        refine ⟨⟨A2, cx - 32, ?_, ?_, ?_⟩, B9.drew.trans hB, F4, A3, c3, hS3, ?_⟩
        · have : l.length - (36 + 32 * (k + 1)) = nx - 32 := by have := HNX.out; omega
          rw [this]; exact hb2
        · have := HNX.out; omega
        · have h1 := hC2 _ _ _ hRx
          have : l.length - (36 + 32 * (k + 1)) = nx - 32 := by have := HNX.out; omega
          rw [this]
          simp only [bcells, List.map_drop, List.drop_drop] at h1 ⊢
          rw [show 36 + 32 * (k + 1) = 36 + 32 * k + 32 by omega]
          exact h1
        · rw [nodesAt_succ, ncells_snoc, Nat.zero_add, ← HNS.out, ← HND.out]
          exact hO3
      simp only [Reg.sel]
      clear hT hfg hfa F4 hB hS3 hO3 hC2 hb2 hS hO hX hZ hRx hnd
      go_wp2
      go_roundw
      case rel => exact ⟨k + 1, by omega, by go_num, nxt⟩
      case measure => simp [intOf]; omega
    · obtain rfl : k = 67 := by omega
      obtain ⟨hBx, B9, hZ, A, c, hS, hO⟩ := hrel
      have start2 : Loop2 w g13 gx idx r l (hgt o) 0 wr := ⟨hBx, B9, hZ, A, c, none, 0, hS, World.ownsRow_nil _ _ _ _, hO, fun b _ h => by cases h⟩
      clear hBx B9 hZ hS hO start
      go_wp2_with fail
      have hh := HH.out
      go_loopw [63] (fun i wr => ∃ k : Nat, k ≤ hgt o ∧ i = .int .i64 k ∧ Loop2 w g13 gx idx r l (hgt o) k wr) (fun i _ => 20 - (intOf i).toNat)
      case atStart => exact ⟨0, by omega, rfl, start2⟩
      case round =>
        obtain ⟨k, hkh, rfl, hrel⟩ := hrel
        by_cases hlt : k < hgt o
        · go_wp2_with fail
          obtain ⟨⟨Ax, cx, hX, hncx, hRx⟩, B9, hZ, Ao, co, A, c, hS, hO, hOo, hoo⟩ := hrel
          obtain ⟨nx, hnxe⟩ : ∃ nx, nx = l.length - (36 + 32 * (67 + k)) := ⟨_, rfl⟩
          rw [← hnxe] at hX hncx hRx
          have HNX := Lib.hid hnxe
          clear hnxe
          have hnx : 32 ≤ nx := by have := HNX.out; have := HL.out; omega
          have hszw := B9.size
          have hgl := hS.lt
          have hog : ¬ (Value.slice A k c).ownBlock = some g13 := fun e => own_ne hO hS (by decide) e rfl
          have hox : ¬ (Value.slice A k c).ownBlock = some gx := fun e => own_ne hO hX (by decide) e rfl
          have hoz : ¬ (Value.slice A k c).ownBlock = some w.heap.size := fun e => own_ne hO hZ (by decide) e rfl
          have hoog : ¬ (Value.slice Ao 67 co).ownBlock = some g13 := fun e => own_ne hOo hS (by decide) e rfl
          have hoox : ¬ (Value.slice Ao 67 co).ownBlock = some gx := fun e => own_ne hOo hX (by decide) e rfl
          obtain ⟨ns, hns⟩ : ∃ ns, ns = nodesAt l 67 k := ⟨_, rfl⟩
          rw [← hns] at hO
          obtain ⟨no, hno⟩ : ∃ no, no = nodesAt l 0 67 := ⟨_, rfl⟩
          rw [← hno] at hOo
          obtain ⟨nd, hnde⟩ : ∃ nd, nd = nodeAt l (67 + k) := ⟨_, rfl⟩
          have hnd : Rd wr.drew w.heap.size 1 Ax 32 (bcells nd) := by
            have := ((hRx.front (k := 32) (by omega)).below B9).drew
            rw [hnde, nodeAt]
            simp only [bcells, List.map_take, List.map_drop, Nat.mul_one] at this ⊢
            exact this
          have ndL : Hid (nd.length = 32) := Lib.hid (by rw [hnde]; exact nodeAt_length l _ (by have := HL.out; omega))
          have HNS := Lib.hid hns
          have HNO := Lib.hid hno
          have HND := Lib.hid hnde
          clear hns hnde hno
          refine Flow.wp_region_flow (w.heap.size) [(4, fun b => b = gx), (8, fun b => (Value.slice A k c).ownBlock = some b), (11, fun b => b = g13)] [(2, fun W => Blk W g13 116 (sigCells idx r (.slice Ao 67 co) (.slice A k c) ++ [Value.int .i64 (hgt o)]).toArray), (4, fun W => Blk W gx 43 #[.slice Ax nx cx]), (8, fun W => W.ownsRow w.heap.size 24 32 (.slice A k c) k (ncells ns)), (11, fun W => Blk W g13 116 (sigCells idx r (.slice Ao 67 co) (.slice A k c) ++ [Value.int .i64 (hgt o)]).toArray), (12, fun W => W.ownsRow w.heap.size 24 32 (.slice Ao 67 co) 67 (ncells no)), (12, fun W => Blk W w.heap.size 76 zsig)] (by kernel_rfl) (by kernel_rfl) B9.size (Flow.nz_cons (by rintro b rfl; exact hgx0) (Flow.nz_cons (fun b hb => (own_some hO hb).1) (Flow.nz_cons (by rintro b rfl; exact hg0) Flow.nz_nil))) (Flow.facts_cons (hS.drew) (Flow.kept_blk id) (Flow.fz_cons (fun _ => Flow.kept_blk hgg) (Flow.fz_cons (Flow.no_follow (by kernel_rfl)) (Flow.fz_cons (Flow.no_follow (by kernel_rfl)) Flow.fz_nil))) (Flow.facts_cons (hX.drew) (Flow.kept_blk id) (Flow.fz_cons (Flow.no_follow (by kernel_rfl)) (Flow.fz_cons (Flow.no_follow (by kernel_rfl)) (Flow.fz_cons (Flow.no_follow (by kernel_rfl)) Flow.fz_nil))) (Flow.facts_cons (hO.drew) (Flow.kept_own (fun _ _ => id)) (Flow.fz_cons (fun _ => Flow.kept_own (fun b hb e => hox (e ▸ hb))) (Flow.fz_cons (Flow.no_follow (by kernel_rfl)) (Flow.fz_cons (Flow.no_follow (by kernel_rfl)) Flow.fz_nil))) (Flow.facts_cons (hS.drew) (Flow.kept_blk id) (Flow.fz_cons (fun _ => Flow.kept_blk hgg) (Flow.fz_cons (fun _ => Flow.kept_blk hog) (Flow.fz_cons (Flow.no_follow (by kernel_rfl)) Flow.fz_nil))) (Flow.facts_cons (hOo.drew) (Flow.kept_own (fun _ _ => id)) (Flow.fz_cons (fun _ => Flow.kept_own (fun b hb e => hoox (e ▸ hb))) (Flow.fz_cons (fun _ => Flow.kept_own (fun b hb e => hoo b hb e)) (Flow.fz_cons (fun _ => Flow.kept_own (fun b hb e => hoog (e ▸ hb))) Flow.fz_nil))) (Flow.facts_cons (hZ.drew) (Flow.kept_blk id) (Flow.fz_cons (fun _ => Flow.kept_blk (fun e => hgw' e.symm)) (Flow.fz_cons (fun _ => Flow.kept_blk hoz) (Flow.fz_cons (fun _ => Flow.kept_blk (fun e => hgw e.symm)) Flow.fz_nil))) Flow.facts_nil)))))) ?_
          apply Flow.pass_val (hm := (Flow.met_none rfl))
          · intro a W hH
            have e0 := Flow.see_old 13 hH.sees (by kernel_rfl) (by kernel_rfl) rfl
            go_simp; first | done | rfl
          refine Flow.pass_val (.pointer (some ⟨g13, 34, none⟩)) (Flow.met_none rfl) (fun a W hH => ?_) ?_
          · have e0 := Flow.see_new 65 0 hH.sees (by kernel_rfl) (by kernel_rfl) rfl rfl
            go_simp
          refine Flow.pass_val (.slice A k c) (Flow.met_none rfl) (fun a W hH => ?_) ?_
          · have e0 := Flow.see_new 66 1 hH.sees (by kernel_rfl) (by kernel_rfl) rfl rfl
            have fa0 : (fun W => Blk W g13 116 (sigCells idx r (.slice Ao 67 co) (.slice A k c) ++ [Value.int .i64 (hgt o)]).toArray) W := hH.fact _ (List.mem_of_getElem? (i := 0) rfl) rfl
            have cf := (sig_cell rL.out fa0).2.2.1; go_simp
          refine Flow.pass_old (X := .func (.func 89) #[] #[.pointer (some ⟨gx, 0, none⟩)]) 12 (Flow.met_none rfl) (.inl rfl) (by kernel_rfl) (by kernel_rfl) rfl ?_
          refine Flow.pass_gen (fun v W => ∃ A2, v = .slice Ax 32 cx ∧ (CutTo Ax A2 nx 32 ∧ Blk W gx 43 #[.slice A2 (nx - 32) (cx - 32)])) (Flow.kept_of (fun _ _ _ c ⟨A2, h1, h2, h3⟩ => ⟨A2, h1, h2, h3.chg c id⟩) (Flow.kz_cons (Flow.no_follow (by kernel_rfl)) (Flow.kz_cons (fun _ => fun _ _ _ c ⟨A2, h1, h2, h3⟩ => ⟨A2, h1, h2, h3.chg c hox⟩) (Flow.kz_cons (fun _ => fun _ _ _ c ⟨A2, h1, h2, h3⟩ => ⟨A2, h1, h2, h3.chg c (fun e => hgg e.symm)⟩) Flow.kz_nil)))) (Flow.met_none rfl) (fun a W hH => ?_) ?_
          · have e0 := Flow.see_new 68 3 hH.sees (by kernel_rfl) (by kernel_rfl) rfl rfl
            have fa1 : (fun W => Blk W gx 43 #[.slice Ax nx cx]) W := hH.fact _ (List.mem_of_getElem? (i := 1) rfl) rfl
            refine Flow.wp_callF rfl e0 Tryd.func89 rfl (by kernel_rfl) (by simp [Act.eval]) (cut_any gx Ax nx cx W fa1 hnx hncx) ?_
            rintro e w' ⟨A2, hC, rfl, hb2, hg2, _⟩
            exact ⟨_, rfl, Chg.grown hg2 (by rintro k h; cases h; rfl), A2, rfl, hC, hb2⟩
          refine Flow.pass_val (.pointer Ax) (Flow.met_none rfl) (fun a W hH => ?_) ?_
          · obtain ⟨A20, e0, q0⟩ := Flow.see_up 69 4 hH.sees (by kernel_rfl) (by kernel_rfl) rfl rfl
            exact Flow.reg_array _ rfl e0 Tryd.underlying24 (Nat.le_refl _)
          refine Flow.pass_val (.agg (bcells nd).toArray) (Flow.met_none rfl) (fun a W hH => ?_) ?_
          · have e0 := Flow.see_new 70 5 hH.sees (by kernel_rfl) (by kernel_rfl) rfl rfl
            exact reg_loadRd 24 _ rfl e0 (hnd.below hH.below) Tryd.underlying24 rfl (by rw [List.size_toArray, bcells_length, ndL.out]; exact infNode) (by rw [bcells_length, ndL.out]; omega)
          refine Flow.pass_gen (fun v W => ∃ b, v = .slice (some ⟨b, 0, none⟩) 1 1 ∧ (wr.heap.size ≤ b ∧ Blk W b 24 (bcells nd).toArray)) (Flow.kept_of (fun _ _ _ c ⟨b, h1, h2, h3⟩ => ⟨b, h1, h2, h3.chg c id⟩) (Flow.kz_cons (Flow.no_follow (by kernel_rfl)) (Flow.kz_cons (fun _ => fun _ _ _ c ⟨b, h1, h2, h3⟩ => ⟨b, h1, h2, h3.chg c (fun hb => by have := (own_some hO hb).2; omega)⟩) (Flow.kz_cons (fun _ => fun _ _ _ c ⟨b, h1, h2, h3⟩ => ⟨b, h1, h2, h3.chg c (fun e => by have e2 : b = g13 := e; omega)⟩) Flow.kz_nil)))) (Flow.met_none rfl) (fun a W hH => ?_) ?_
          · have e0 := Flow.see_new 71 6 hH.sees (by kernel_rfl) (by kernel_rfl) rfl rfl
            refine Flow.wp_run (Flow.reg_buildSlice _ rfl (by simp [Act.eval, e0]) (run_node1 W nd ndL.out)) ?_
            exact ⟨_, rfl, Chg.of_ext ((Ext.refl W).alloc _), W.heap.size, rfl, hH.below.size, Blk.new _ _ _⟩
          refine Flow.pass_list (fun v W => ∃ A1 c1, v = .slice A1 (k + 1) c1 ∧ (W.ownsRow w.heap.size 24 32 (.slice A1 (k + 1) c1) (k + 1) ((ncells ns) ++ bcells nd) ∧ ∀ b, (Value.slice A1 (k + 1) c1).ownBlock = some b → (Value.slice A k c).ownBlock = some b ∨ wr.heap.size ≤ b)) (Flow.kept_of (fun _ _ _ c ⟨A1, c1, h1, h2, h3⟩ => ⟨A1, c1, h1, own_chg h2 c (fun _ _ => id), h3⟩) (Flow.kz_cons (Flow.no_follow (by kernel_rfl)) (Flow.kz_cons (Flow.no_follow (by kernel_rfl)) (Flow.kz_cons (fun _ => fun _ _ _ c ⟨A1, c1, h1, h2, h3⟩ => ⟨A1, c1, h1, own_chg h2 c (fun b hb e => by have e2 : b = g13 := e; subst e2; rcases h3 _ hb with h4 | h4; exact hog h4; omega), h3⟩) Flow.kz_nil)))) (Flow.met_none rfl) (fun a W hH => ?_) ?_
          · have e0 := Flow.see_new 67 2 hH.sees (by kernel_rfl) (by kernel_rfl) rfl rfl
            obtain ⟨b1, e1, q1⟩ := Flow.see_up 72 7 hH.sees (by kernel_rfl) (by kernel_rfl) rfl rfl
            have fa2 : (fun W => W.ownsRow w.heap.size 24 32 (.slice A k c) k (ncells ns)) W := hH.fact _ (List.mem_of_getElem? (i := 2) rfl) rfl
            refine wpList_app W elN rfl _ _ rfl w.heap.size A k c _ (by simpa [Act.eval] using e0) fa2 W.heap.size (some ⟨b1, 0, none⟩) 1 1 (bcells nd) (by simpa [Act.eval] using e1) (by have := q1.2.rd (size := 32) (n := 1) (by simp [bcells_length, ndL.out]); simpa using this) (bcells_one nd) (by omega) (by omega) (Nat.le_trans hszw hH.below.size) ?_
            intro A1 c1 W2 hO2 hg hB hob
            refine Flow.qq_nil ⟨_, rfl, Chg.grown hg (fun b hb => hb), A1, c1, rfl, hO2, fun b hb => ?_⟩
            rcases hob with h4 | h4
            · left; rw [← h4]; exact hb
            · right; rw [hb] at h4; cases h4; exact hH.below.size
          apply Flow.pass_val (hm := (Flow.met_none rfl))
          · intro a W hH
            have e0 := Flow.see_old 13 hH.sees (by kernel_rfl) (by kernel_rfl) rfl
            go_simp; first | done | rfl
          refine Flow.pass_val (.pointer (some ⟨g13, 34, none⟩)) (Flow.met_none rfl) (fun a W hH => ?_) ?_
          · have e0 := Flow.see_new 74 9 hH.sees (by kernel_rfl) (by kernel_rfl) rfl rfl
            go_simp
          refine Flow.pass_gen (fun _ W => ∃ A1 c1, Blk W g13 116 (sigCells idx r (.slice Ao 67 co) (.slice A1 (k + 1) c1) ++ [Value.int .i64 (hgt o)]).toArray ∧ (W.ownsRow w.heap.size 24 32 (.slice A1 (k + 1) c1) (k + 1) ((ncells ns) ++ bcells nd) ∧ ∀ b, (Value.slice A1 (k + 1) c1).ownBlock = some b → (Value.slice A k c).ownBlock = some b ∨ wr.heap.size ≤ b)) (Flow.kept_of (fun _ _ _ c ⟨A1, c1, h1, h2, h3⟩ => ⟨A1, c1, h1.chg c id, own_chg h2 c (fun _ _ => id), h3⟩) (Flow.kz_cons (Flow.no_follow (by kernel_rfl)) (Flow.kz_cons (Flow.no_follow (by kernel_rfl)) (Flow.kz_cons (Flow.no_follow (by kernel_rfl)) Flow.kz_nil)))) (Flow.met_none rfl) (fun a W hH => ?_) ?_
          · have e0 := Flow.see_new 75 10 hH.sees (by kernel_rfl) (by kernel_rfl) rfl rfl
            obtain ⟨A11, c11, e1, q1⟩ := Flow.see_up 73 8 hH.sees (by kernel_rfl) (by kernel_rfl) rfl rfl
            have fa3 : (fun W => Blk W g13 116 (sigCells idx r (.slice Ao 67 co) (.slice A k c) ++ [Value.int .i64 (hgt o)]).toArray) W := hH.fact _ (List.mem_of_getElem? (i := 3) rfl) rfl
            refine wp_skip (reg_storeSlice rfl (by kernel_rfl) fa3 e0 e1 (by rw [sg36 idx r _ _ _ rL.out]; omega)) ?_
            obtain ⟨hO2, hob⟩ := q1
            refine ⟨_, rfl, Chg.grown (grown_set W g13 34 _) (by rintro k h; cases h; rfl), A11, c11, ?_, own_chg hO2 (Chg.grown (grown_set W g13 34 _) (Z := fun b => b = g13) (by rintro k h; cases h; rfl)) (fun b hb e => by have e2 : b = g13 := e; subst e2; rcases hob _ hb with h4 | h4; exact hog h4; omega), hob⟩
            have := fa3.set_ 34 (.slice A11 (k + 1) c11)
            rwa [sg_set34 idx r _ _ _ _ rL.out] at this
          refine Flow.pass_end [none, none, none, none, none, none, none, none, none, none, none, none, none, none, none, none, none, none, none, none, none, none, none, none, none, none, none, none, none, none, none, none, none, none, none, none, none, none, none, none, none, none, none, none, none, none, none, none, none, none, none, none, none, none, none, none, none, none, none, none, none, none, none, none, none, some 65, some 66, some 67, some 68, some 69, some 70, some 71, some 72, some 73, some 74, some 75, none, none, none, none, none, none, none] (by kernel_rfl) ?_
          intro f g w9 hB hfa hT hfg
          have F4 : (fun W => W.ownsRow w.heap.size 24 32 (.slice Ao 67 co) 67 (ncells no)) w9 := hfa _ (List.mem_of_getElem? (i := 4) rfl) (Nat.le_refl _)
          have F5 : (fun W => Blk W w.heap.size 76 zsig) w9 := hfa _ (List.mem_of_getElem? (i := 5) rfl) (Nat.le_refl _)
          obtain ⟨A2, _, hC2, hb2⟩ := hT 4 _ (by kernel_rfl) rfl
          obtain ⟨A3, c3, hS3, hO3, hob3⟩ := hT 11 _ (by kernel_rfl) rfl
          have nxt : Loop2 w g13 gx idx r l (hgt o) (k + 1) w9 := by
            refine ⟨⟨A2, cx - 32, ?_, ?_, ?_⟩, B9.drew.trans hB, F5, Ao, co, A3, c3, hS3, ?_, by rw [← HNO.out]; exact F4, ?_⟩
            · have : l.length - (36 + 32 * (67 + (k + 1))) = nx - 32 := by have := HNX.out; omega
              rw [this]; exact hb2
            · have := HNX.out; omega
            · have h1 := hC2 _ _ _ hRx
              have : l.length - (36 + 32 * (67 + (k + 1))) = nx - 32 := by have := HNX.out; omega
              rw [this]
              simp only [bcells, List.map_drop, List.drop_drop] at h1 ⊢
              rw [show 36 + 32 * (67 + (k + 1)) = 36 + 32 * (67 + k) + 32 by omega]
              exact h1
            · rw [nodesAt_succ, ncells_snoc, ← HNS.out, ← HND.out]
              exact hO3
            · intro b hb1 hb2
              rcases hob3 b hb2 with h4 | h4
              · exact hoo b hb1 h4
              · have := (own_some hOo hb1).2
                omega
          simp only [Reg.sel]
          clear hT hfg hfa F4 F5 hB hS3 hO3 hC2 hb2 hS hO hX hZ hRx hnd hob3 hOo hoo
          go_wp2
          go_roundw
          case rel => exact ⟨k + 1, by omega, by go_num, nxt⟩
          case measure => simp [intOf]; omega
        · obtain rfl : k = hgt o := by omega
          obtain ⟨_, B9, hZ, Ao, co, A, c, hS, hO, hOo, _⟩ := hrel
          have hk36 : Hid ((sigCells idx r (.slice Ao 67 co) (.slice A (hgt o) c) ++ [Value.int .i64 (hgt o)]).toArray.size = 36) := Lib.hid (by simp [sigCells, bcells_length, rL.out])
          go_wp2_with ((with_reducible refine at_load 116 ?_); refine wpList_loadAll wr rfl 116 _ rfl g13 116 _ hS _ rfl Tryd.underlying116 rfl (by rw [hk36.out]; exact inf36) ?_)
          have hidx : idx < 4294967296 := by have := rdNum_lt l 0 4 false; have := HI.out; omega
          refine (may_any idx r rL.out Ao A 67 co (hgt o) c (hgt o) hidx hh wr).mono ?_
          rintro e W4 ⟨rfl, hB4⟩
          have hS := hS.below hB4 hS.lt
          have hZ := hZ.below hB4 hZ.lt
          have r1 := own_chg hOo (Chg.of_ext (Z := fun _ => False) hB4) (fun _ _ => id)
          have r2 := own_chg hO (Chg.of_ext (Z := fun _ => False) hB4) (fun _ _ => id)
          have l1 := Flow.own_le hOo
          have l2 := Flow.own_le hO
          have B4 := B9.trans (hB4.mono B9.size)
          have hs4 := hB4.size
          have hz35 : Hid (zsig.size = 35) := Lib.hid (by kernel_rfl)
          have hk35 : Hid ((sigCells idx r (.slice Ao 67 co) (.slice A (hgt o) c)).toArray.size = 35) := Lib.hid (by simp [sigCells, bcells_length, rL.out])
          clear hO hOo hB4 B9 hk36
          by_cases hb : idx < 2 ^ hgt o
          · have em : may 67 (hgt o) idx (hgt o) = true := by simp [may, hb]
            rw [em]
            have hr0 : W4.rangeAt g13 0 (sigCells idx r (.slice Ao 67 co) (.slice A (hgt o) c)) := fun j v hv => by
              rw [hS.cell, Nat.zero_add, List.getElem?_toArray, List.getElem?_append_left (List.getElem?_eq_some_iff.1 hv).1]; exact hv
            go_wp2_with (first
              | ((with_reducible refine at_load 76 ?_); refine wpList_load_mid rfl 76 _ rfl g13 0 rfl (sigCells idx r (.slice Ao 67 co) (.slice A (hgt o) c)) _ hr0 Tryd.underlying76 rfl (by have := hk35.out; rw [List.size_toArray] at this; rw [this]; exact inf35) ?_)
              | ((with_reducible refine at_store 76 ?_); refine wpList_storeAll W4 rfl 76 _ _ rfl w.heap.size 76 _ (sigCells idx r (.slice Ao 67 co) (.slice A (hgt o) c)).toArray hZ rfl rfl (by rw [hk35.out, hz35.out]) (by rw [hk35.out]; exact inf35) (sg35_one _ _ _ _ rfl rfl) ?_; intro W5 hb5 hg5 hs5))
            refine bodyPost_ret (results_cell_tmp rfl _ _ w.heap.size _ _ _ _ rfl hb5 Tryd.underlying76 rfl (by rw [hk35.out]; exact inf35)) rfl ?_
            unfold SigEnd
            rw [if_pos hb]
            refine ⟨Ao, co, A, c, rfl, l1, l2, ?_, ?_, grown_below B4 hg5 B4.size (Nat.le_refl _)⟩
            · exact Rd.of_own (own_chg r1 (Chg.grown (Z := fun b => b = w.heap.size) hg5 (by rintro k h; cases h; rfl)) (fun b hb e => own_ne r1 hZ (by decide) hb e))
            · exact Rd.of_own (own_chg r2 (Chg.grown (Z := fun b => b = w.heap.size) hg5 (by rintro k h; cases h; rfl)) (fun b hb e => own_ne r2 hZ (by decide) hb e))
          · have em : may 67 (hgt o) idx (hgt o) = false := by simp [may, hb]
            rw [em]
            go_wp2_with ((with_reducible refine at_store 76 ?_); refine wpList_storeAll W4 rfl 76 _ _ rfl w.heap.size 76 _ zsig hZ rfl rfl rfl (by rw [hz35.out]; exact inf35) (by decide) ?_; intro W5 hb5 hg5 hs5)
            refine bodyPost_ret (results_cell_tmp rfl _ _ w.heap.size _ _ _ _ rfl hb5 Tryd.underlying76 rfl (by rw [hz35.out]; exact inf35)) rfl ?_
            unfold SigEnd
            rw [if_neg hb]
            exact ⟨rfl, grown_below B4 hg5 B4.size (Nat.le_refl _)⟩
end Go.Proofs.YtgfdjfglfipjfaaDoor
/-
  Walk: portreeveref04.SigOf of bytes of the right length.
-/
namespace Go.Proofs.YtgfdjfglfipjfaaDoor
open Go.RowKit

def RLoop (w : World) (g idx : Nat) (r l : List UInt8) (k : Nat) (wr : World) : Prop :=
  Below w.heap.size w wr ∧ Blk wr w.heap.size 76 zsig ∧ g < wr.heap.size ∧
  ∃ Ao co A c, Blk wr g 76 (sigCells idx r (.slice Ao (min k 67) co) (.slice A (k - 67) c)).toArray ∧ wr.ownsRow w.heap.size 24 32 (.slice Ao (min k 67) co) (min k 67) (ncells (nodesAt l 0 (min k 67))) ∧
    wr.ownsRow w.heap.size 24 32 (.slice A (k - 67) c) (k - 67) (ncells (nodesAt l 67 (k - 67))) ∧ ∀ b, (Value.slice Ao (min k 67) co).ownBlock = some b → ¬ (Value.slice A (k - 67) c).ownBlock = some b
theorem sg35 (idx : Nat) (r : List UInt8) (v1 v2 : Value) (hr : r.length = 32) : (sigCells idx r v1 v2).toArray.size = 35 := by simp [sigCells, bcells_length, hr]
theorem sg35_set33 (idx : Nat) (r : List UInt8) (v1 v2 v : Value) (hr : r.length = 32) : (sigCells idx r v1 v2).toArray.setIfInBounds 33 v = (sigCells idx r v v2).toArray := by
  have hl : (bcells r).length = 32 := by rw [bcells_length]; exact hr
  simp [sigCells, hl]
theorem sg35_set34 (idx : Nat) (r : List UInt8) (v1 v2 v : Value) (hr : r.length = 32) : (sigCells idx r v1 v2).toArray.setIfInBounds 34 v = (sigCells idx r v1 v).toArray := by
  have hl : (bcells r).length = 32 := by rw [bcells_length]; exact hr
  simp [sigCells, hl]
theorem sig_cell35 {w : World} {g : Nat} {t : TypeId} {i : Nat} {r : List UInt8} {v1 v2 : Value} (hr : r.length = 32) (h : Blk w g t (sigCells i r v1 v2).toArray) :
    w.cell? ⟨g, 0, none⟩ = some (.int .u32 i) ∧ w.cell? ⟨g, 33, none⟩ = some v1 ∧ w.cell? ⟨g, 34, none⟩ = some v2 := by
  have hl : (bcells r).length = 32 := by rw [bcells_length]; exact hr
  refine ⟨?_, ?_, ?_⟩ <;> rw [h.cell] <;> simp [sigCells, hl]
theorem shl_one (h : Nat) (hh : h ≤ 20) : IntKind.u64.wrap (2 ^ h) = ((2 ^ h : Nat) : Int) := by
  have : (2 : Nat) ^ h ≤ 2 ^ 20 := Nat.pow_le_pow_right (by omega) hh
  rw [IntWalk.u64_in _ (by constructor; exact Int.pow_nonneg (by omega); have : ((2 : Int) ^ h) = ((2 ^ h : Nat) : Int) := by rw [Int.natCast_pow]; rfl
                           omega)]
  rw [Int.natCast_pow]; rfl

set_option maxRecDepth 100000 in
set_option maxHeartbeats 8000000 in
theorem rSigOf_in (A : Option Addr) (c0 : Nat) (l : List UInt8) (o : Nat) (w : World) (h : Rd w w.heap.size 1 A l.length (bcells l)) (hc : l.length ≤ c0) (hk : isKind o = true) (hl : l.length = 36 + 32 * (67 + hgt o))
    (idx : Nat) (hidx : idx = rdNum l 0 4 false) (r : List UInt8) (hr : r = (l.drop 4).take 32) :
    Calls Tryd.prog 52 #[.slice A l.length c0, .int .u32 o] w (SigEnd w l o idx r) := by
  have hh : hgt o ≤ 20 := by unfold hgt; split <;> (try split) <;> (try split) <;> omega
  have rL : Hid (r.length = 32) := Lib.hid (by rw [hr]; simp; omega)
  have hi32 : idx < 4294967296 := by rw [hidx]; exact rdNum_lt l 0 4 false
  have HR := Lib.hid hr
  have HI := Lib.hid hidx
  have HL := Lib.hid hl
  have hl36 : 36 ≤ l.length := by omega
  have hlt : l.length ≤ 1000000 := by omega
  have hlen : (36 : Int) + 32 * (67 + (hgt o : Nat)) = (l.length : Nat) := by omega
  have hb35 := fun W => run_sig35 idx r W rL.out
  have hw := shl_one (hgt o) hh
  obtain ⟨p2, hp2⟩ : ∃ p2, p2 = 2 ^ hgt o := ⟨_, rfl⟩
  rw [← hp2] at hw
  have HP := Lib.hid hp2
  clear hr hidx hl hp2
  go_enter Tryd.func52, Tryd.ntmps52
  go_wp2_with fail
  change Calls _ _ _ (w.alloc (.cells zsig 76)) _
  have B0 : Below w.heap.size w (w.alloc (.cells zsig 76)) := (Below.refl _ _).alloc (Nat.le_refl _) _
  have hb0 := Blk.new w 76 zsig
  have s0 : Hid ((w.alloc (.cells zsig 76)).heap.size = w.heap.size + 1) := Lib.hid (by simp)
  generalize w.alloc (.cells zsig 76) = W0 at *
  refine (rHeight_any o W0).mono ?_
  rintro e w' ⟨rfl, rfl⟩
  rw [hk]
  go_wp2_with fail
  refine (number_any A l.length c0 0 false l W0 4 ((h.below B0).more B0.size) hlt (by omega) (by omega)).mono ?_
  rintro e w' ⟨rfl, rfl⟩
  rw [← HI.out]
  by_cases hb : idx < p2
  · have hbi : ¬ (p2 : Int) ≤ (idx : Int) := by omega
    have h4 : ¬ c0 = 4 := by omega
    have c36 : (36 : Int) ≤ (c0 : Int) := by omega
    have hrr : Rd W0 w.heap.size 1 (A.map fun x => ⟨x.block, x.off + 4, none⟩) 32 (bcells r) := by
      have := (h.at_ 4 32 (by omega) (by omega)).below B0
      rw [HR.out]; exact this
    obtain ⟨rb, ro, hA4, _, hrange⟩ := hrr.range (by omega)
    have hl32 : Hid ((bcells r).length = 32) := Lib.hid (by rw [bcells_length]; exact rL.out)
    have harr := fun W => run_arrayAt (P := Tryd.prog) W Tryd.underlying24 (some ⟨rb, ro, none⟩) 32 (c0 - 4) (Nat.le_refl _)
    have hsg := Blk.new W0 76 zsig
    have hk35 : Hid ((sigCells idx r (.slice none 0 0) (.slice none 0 0)).toArray.size = 35) := Lib.hid (by simp [sigCells, bcells_length, rL.out])
    have hz35 : Hid (zsig.size = 35) := Lib.hid (by kernel_rfl)
    have hcv : IntKind.u32.wrap (idx : Int) = (idx : Int) := IntWalk.u32_in _ (by omega)
    clear hrr
    go_wp2_with (first
      | ((with_reducible refine at_load 24 ?_); refine wpList_load_mid rfl 24 _ rfl rb ro rfl (bcells r) _ hrange Tryd.underlying24 rfl (by rw [hl32.out]; exact infNode) ?_)
      | ((with_reducible refine at_build 76 ?_); refine wpList_buildV W0 rfl #[(0, .int .u32 idx), (1, .agg (bcells r).toArray)] rfl ?_ (hb35 W0) ?_; (simp [Act.eval, Act.put]))
      | ((with_reducible refine at_store 76 ?_); refine wpList_storeAll _ rfl 76 _ _ rfl W0.heap.size 76 _ (sigCells idx r (.slice none 0 0) (.slice none 0 0)).toArray hsg rfl rfl (by rw [hk35.out, hz35.out]) (by rw [hk35.out]; exact inf35) (sg35_one _ _ _ _ rfl rfl) ?_; intro W3 hb3 hg3 hs3))
    have HS0 := s0.out
    have hg1 : w.heap.size < W0.heap.size := by omega
    have B3 := grown_below (B0.alloc B0.size (.cells zsig 76)) hg3 (by simp; omega) B0.size
    have hz3 := (hb0.alloc (.cells zsig 76)).grown hg3 (by simp; omega)
    have hk3 : W0.heap.size < W3.heap.size := by rw [hs3]; simp
    have start : RLoop w W0.heap.size idx r l 0 W3 := ⟨B3, hz3, hk3, none, 0, none, 0, hb3, World.ownsRow_nil _ _ _ _, World.ownsRow_nil _ _ _ _, fun b h => by cases h⟩
    have hgzw : ¬ W0.heap.size = w.heap.size := by omega
    have hg0 : w.heap.size ≤ W0.heap.size := by omega
    generalize W0.heap.size = g at *
    clear hsg hrange hg3 hs3 B3 hz3 hk3 hb3 hb0 s0 HS0 B0 harr hb35 hw hcv
    go_loopw [11] (fun i wr => ∃ k : Nat, k ≤ 67 + hgt o ∧ i = .int .i64 k ∧ RLoop w g idx r l k wr) (fun i _ => 100 - (intOf i).toNat)
    case atStart => exact ⟨0, by omega, rfl, start⟩
    case round =>
      obtain ⟨k, hkk, rfl, hB9, hZ, hgl, Ao, co, A2, c2, hS, hO, hO2, hoo⟩ := hrel
      by_cases hlt : k < 67 + hgt o
      · have hnd0 := ((h.at_ (36 + 32 * k) 32 (by have := HL.out; omega) (by omega)).below hB9)
        obtain ⟨nd, hnde⟩ : ∃ nd, nd = nodeAt l k := ⟨_, rfl⟩
        have e1 : (l.drop (36 + 32 * k)).take 32 = nd := by rw [hnde, nodeAt]
        rw [e1] at hnd0
        have ndL : Hid (nd.length = 32) := Lib.hid (by rw [hnde]; exact nodeAt_length l k (by have := HL.out; omega))
        obtain ⟨rb, ro, hA5, _, hrange⟩ := hnd0.range (by omega)
        have hlnd : Hid ((bcells nd).length = 32) := Lib.hid (by rw [bcells_length]; exact ndL.out)
        have hck : ¬ c0 = 36 + 32 * k := by have := HL.out; omega
        have c68 : (68 : Int) + 32 * (k : Int) ≤ (c0 : Int) := by have := HL.out; omega
        have HND := Lib.hid hnde
        clear hnde e1 hnd0
        have efn : (fun x : Addr => (⟨x.block, x.off + (36 + 32 * k), none⟩ : Addr)) = fun x => x.add (36 + 32 * k) := by
          funext x; unfold Addr.add; rw [if_neg (by omega)]
        rw [efn] at hA5
        have hsub : 68 + 32 * k - (36 + 32 * k) = 32 := by omega
        have harr := fun W => run_arrayAt (P := Tryd.prog) W Tryd.underlying24 (some ⟨rb, ro, none⟩) 32 (c0 - (36 + 32 * k)) (Nat.le_refl _)
        have hnb := Blk.new wr 24 (bcells zeroNode0).toArray
        have hz32 : Hid ((bcells zeroNode0).toArray.size = 32) := Lib.hid rfl
        clear efn
        have hgz : ¬ g = w.heap.size := fun e => hgzw e
        by_cases h67 : k < 67
        · have em : min k 67 = k := by omega
          have em2 : k - 67 = 0 := by omega
          simp only [em, em2] at hS hO hO2 hoo
          clear em em2
          have hog : ¬ (Value.slice Ao k co).ownBlock = some g := fun e => own_ne hO hS (by decide) e rfl
          have hoz : ¬ (Value.slice Ao k co).ownBlock = some w.heap.size := fun e => own_ne hO hZ (by decide) e rfl
          have hog2 : ¬ (Value.slice A2 0 c2).ownBlock = some g := fun e => own_ne hO2 hS (by decide) e rfl
          have hw1 : w.heap.size ≤ wr.heap.size := hB9.size
          have hlo := fun b hb => (own_some hO (b := b) hb).2
          have hlo2 := fun b hb => (own_some hO2 (b := b) hb).2
          have HLO := Lib.hid hlo
          have HLO2 := Lib.hid hlo2
          have hzl := hZ.lt
          clear hlo hlo2
          have hk100 : k ≤ 100000 := by omega
          go_wp2_with (first
            | ((with_reducible refine at_load 24 ?_); refine wpList_load_mid rfl 24 _ rfl rb ro rfl (bcells nd) _ hrange Tryd.underlying24 rfl (by rw [hlnd.out]; exact infNode) ?_)
            | ((with_reducible refine at_store 24 ?_); refine wpList_storeAll _ rfl 24 _ _ rfl wr.heap.size 24 _ (bcells nd).toArray hnb rfl rfl (by rw [List.size_toArray, hlnd.out]; rfl) (by rw [List.size_toArray, hlnd.out]; exact infNode) (by simpa using bcells_one nd) ?_; intro W3 hb3 hg3 hs3;
                have hC3 := (Chg.of_ext (Z := fun b => b = wr.heap.size) ((Ext.refl wr).alloc (.cells (bcells zeroNode0).toArray 24))).trans (Chg.grown hg3 (by rintro k h; cases h; rfl));
                have hS3 := hS.chg hC3 (by show ¬ _ = _; omega); have c33 := (sig_cell35 rL.out hS3).2.1; have hO3 := own_chg hO hC3 (fun b hb e => by have := HLO.out b hb; have e2 : b = wr.heap.size := e; omega); clear hs3)
            | ((with_reducible refine at_load 24 ?_); refine wpList_loadAll W3 rfl 24 _ rfl wr.heap.size 24 (bcells nd).toArray hb3 _ rfl Tryd.underlying24 rfl (by rw [List.size_toArray, hlnd.out]; exact infNode) ?_)
            | ((with_reducible refine at_buildSlice 22 ?_); refine wpList_runV rfl (Flow.reg_buildSlice #[(0, .agg (bcells nd).toArray)] rfl ?_ (run_node1 W3 nd ndL.out)) ?_; (simp [Act.eval, Act.put]))
            | ((with_reducible refine at_append ?_); refine wpList_appNode W3 rfl _ _ rfl w.heap.size Ao k co (nodesAt l 0 k) nd ndL.out rfl hO3 rfl hk100 (Nat.le_trans hw1 hC3.size) ?_; intro A5 c5 W5 hO5 hC5 hB5 hob5; have hS5 := hS3.chg hC5 hog)
            | ((with_reducible refine at_store 22 ?_); refine wpList_runS rfl (reg_storeSlice rfl (by kernel_rfl) hS5 rfl rfl (by rw [sg35 _ _ _ _ rL.out]; omega)) ?_))
          have hZ5 := (hZ.chg hC3 (by show ¬ _ = _; omega)).chg hC5 hoz
          have B5 := (hB9.trans (hC3.below (n := w.heap.size) (fun j e => by have e2 : j = wr.heap.size := e; omega) hw1)).trans hB5
          have hO6 := own_chg hO5 (Chg.grown (Z := fun b => b = g) (grown_set W5 g 33 (.slice A5 (k + 1) c5)) (by rintro j h; cases h; rfl)) (fun b hb e => own_ne hO5 hS5 (by decide) hb e)
          have hO7 := own_chg (own_chg (own_chg hO2 hC3 (fun b hb e => by have := HLO2.out b hb; have e2 : b = wr.heap.size := e; omega)) hC5 (fun b hb e => hoo b e hb)) (Chg.grown (Z := fun b => b = g) (grown_set W5 g 33 (.slice A5 (k + 1) c5)) (by rintro j h; cases h; rfl)) (fun b hb e => hog2 (e ▸ hb))
          have hS6 := hS5.set_ 33 (.slice A5 (k + 1) c5)
          rw [sg35_set33 _ _ _ _ _ rL.out] at hS6
          have nxt : RLoop w g idx r l (k + 1) (W5.setCell ⟨g, 33, none⟩ (.slice A5 (k + 1) c5)) := by
            refine ⟨B5.setCell (p := ⟨g, 33, none⟩) hg0 _, hZ5.far (fun e => hgz e.symm) _, by simpa using hS5.lt, A5, c5, A2, c2, ?_, ?_, ?_, ?_⟩
            · rw [show min (k + 1) 67 = k + 1 by omega, show k + 1 - 67 = 0 by omega]; exact hS6
            · rw [show min (k + 1) 67 = k + 1 by omega, nodesAt_succ, Nat.zero_add, ← HND.out]; exact hO6
            · rw [show k + 1 - 67 = 0 by omega]; exact hO7
            · rw [show min (k + 1) 67 = k + 1 by omega, show k + 1 - 67 = 0 by omega]
              intro b hb1 hb2
              rcases hob5 b hb1 with h5 | h5
              · exact hoo b h5 hb2
              · have := HLO2.out b hb2
                have := hC3.size
                omega
          clear hZ5 B5 hO6 hO7 hS6 hO5 hC5 hB5 hob5 hS5 hC3 hS3 c33 hO3 hb3 hg3 hS hO hO2 hoo hZ hB9
          go_roundw
          case rel => exact ⟨k + 1, by omega, by go_num, nxt⟩
          case measure => simp [intOf]; omega
        · have em : min k 67 = 67 := by omega
          obtain ⟨q, rfl⟩ : ∃ q, k = 67 + q := ⟨k - 67, by omega⟩
          have em2 : 67 + q - 67 = q := by omega
          simp only [em, em2] at hS hO hO2 hoo
          clear em em2
          have hog : ¬ (Value.slice A2 q c2).ownBlock = some g := fun e => own_ne hO2 hS (by decide) e rfl
          have hoz : ¬ (Value.slice A2 q c2).ownBlock = some w.heap.size := fun e => own_ne hO2 hZ (by decide) e rfl
          have hog2 : ¬ (Value.slice Ao 67 co).ownBlock = some g := fun e => own_ne hO hS (by decide) e rfl
          have hw1 : w.heap.size ≤ wr.heap.size := hB9.size
          have hlo := fun b hb => (own_some hO2 (b := b) hb).2
          have hlo2 := fun b hb => (own_some hO (b := b) hb).2
          have HLO := Lib.hid hlo
          have HLO2 := Lib.hid hlo2
          have hzl := hZ.lt
          clear hlo hlo2
          have hk100 : q ≤ 100000 := by omega
          go_wp2_with (first
            | ((with_reducible refine at_load 24 ?_); refine wpList_load_mid rfl 24 _ rfl rb ro rfl (bcells nd) _ hrange Tryd.underlying24 rfl (by rw [hlnd.out]; exact infNode) ?_)
            | ((with_reducible refine at_store 24 ?_); refine wpList_storeAll _ rfl 24 _ _ rfl wr.heap.size 24 _ (bcells nd).toArray hnb rfl rfl (by rw [List.size_toArray, hlnd.out]; rfl) (by rw [List.size_toArray, hlnd.out]; exact infNode) (by simpa using bcells_one nd) ?_; intro W3 hb3 hg3 hs3;
                have hC3 := (Chg.of_ext (Z := fun b => b = wr.heap.size) ((Ext.refl wr).alloc (.cells (bcells zeroNode0).toArray 24))).trans (Chg.grown hg3 (by rintro k h; cases h; rfl));
                have hS3 := hS.chg hC3 (by show ¬ _ = _; omega); have c34 := (sig_cell35 rL.out hS3).2.2; have hO3 := own_chg hO2 hC3 (fun b hb e => by have := HLO.out b hb; have e2 : b = wr.heap.size := e; omega); clear hs3)
            | ((with_reducible refine at_load 24 ?_); refine wpList_loadAll W3 rfl 24 _ rfl wr.heap.size 24 (bcells nd).toArray hb3 _ rfl Tryd.underlying24 rfl (by rw [List.size_toArray, hlnd.out]; exact infNode) ?_)
            | ((with_reducible refine at_buildSlice 22 ?_); refine wpList_runV rfl (Flow.reg_buildSlice #[(0, .agg (bcells nd).toArray)] rfl ?_ (run_node1 W3 nd ndL.out)) ?_; (simp [Act.eval, Act.put]))
            | ((with_reducible refine at_append ?_); refine wpList_appNode W3 rfl _ _ rfl w.heap.size A2 q c2 (nodesAt l 67 q) nd ndL.out rfl hO3 rfl hk100 (Nat.le_trans hw1 hC3.size) ?_; intro A5 c5 W5 hO5 hC5 hB5 hob5; have hS5 := hS3.chg hC5 hog)
            | ((with_reducible refine at_store 22 ?_); refine wpList_runS rfl (reg_storeSlice rfl (by kernel_rfl) hS5 rfl rfl (by rw [sg35 _ _ _ _ rL.out]; omega)) ?_))
          have hZ5 := (hZ.chg hC3 (by show ¬ _ = _; omega)).chg hC5 hoz
          have B5 := (hB9.trans (hC3.below (n := w.heap.size) (fun j e => by have e2 : j = wr.heap.size := e; omega) hw1)).trans hB5
          have hO6 := own_chg hO5 (Chg.grown (Z := fun b => b = g) (grown_set W5 g 34 (.slice A5 (q + 1) c5)) (by rintro j h; cases h; rfl)) (fun b hb e => own_ne hO5 hS5 (by decide) hb e)
          have hO7 := own_chg (own_chg (own_chg hO hC3 (fun b hb e => by have := HLO2.out b hb; have e2 : b = wr.heap.size := e; omega)) hC5 (fun b hb e => hoo b hb e)) (Chg.grown (Z := fun b => b = g) (grown_set W5 g 34 (.slice A5 (q + 1) c5)) (by rintro j h; cases h; rfl)) (fun b hb e => hog2 (e ▸ hb))
          have hS6 := hS5.set_ 34 (.slice A5 (q + 1) c5)
          rw [sg35_set34 _ _ _ _ _ rL.out] at hS6
          have nxt : RLoop w g idx r l (67 + q + 1) (W5.setCell ⟨g, 34, none⟩ (.slice A5 (q + 1) c5)) := by
            refine ⟨B5.setCell (p := ⟨g, 34, none⟩) hg0 _, hZ5.far (fun e => hgz e.symm) _, by simpa using hS5.lt, Ao, co, A5, c5, ?_, ?_, ?_, ?_⟩
            · rw [show min (67 + q + 1) 67 = 67 by omega, show 67 + q + 1 - 67 = q + 1 by omega]; exact hS6
            · rw [show min (67 + q + 1) 67 = 67 by omega]; exact hO7
            · rw [show 67 + q + 1 - 67 = q + 1 by omega, nodesAt_succ, ← HND.out]; exact hO6
            · rw [show min (67 + q + 1) 67 = 67 by omega, show 67 + q + 1 - 67 = q + 1 by omega]
              intro b hb1 hb2
              rcases hob5 b hb2 with h5 | h5
              · exact hoo b hb1 h5
              · have := HLO2.out b hb1
                have := hC3.size
                omega
          clear hZ5 B5 hO6 hO7 hS6 hO5 hC5 hB5 hob5 hS5 hC3 hS3 c34 hO3 hb3 hg3 hS hO hO2 hoo hZ hB9
          go_roundw
          case rel => exact ⟨67 + q + 1, by omega, by go_num, nxt⟩
          case measure => simp [intOf]; omega
      · obtain rfl : k = 67 + hgt o := by omega
        simp only [show min (67 + hgt o) 67 = 67 by omega, show 67 + hgt o - 67 = hgt o by omega] at hS hO hO2 hoo
        have r1 := hO
        have r2 := hO2
        have l1 := Flow.own_le hO
        have l2 := Flow.own_le hO2
        have hk35' : Hid ((sigCells idx r (.slice Ao 67 co) (.slice A2 (hgt o) c2)).toArray.size = 35) := Lib.hid (by simp [sigCells, bcells_length, rL.out])
        have hs9 := hB9.size
        clear hO hO2 hoo
        go_wp2_with (first
          | ((with_reducible refine at_load 76 ?_); refine wpList_loadAll wr rfl 76 _ rfl g 76 _ hS _ rfl Tryd.underlying76 rfl (by rw [hk35'.out]; exact inf35) ?_)
          | ((with_reducible refine at_store 76 ?_); refine wpList_storeAll wr rfl 76 _ _ rfl w.heap.size 76 _ (sigCells idx r (.slice Ao 67 co) (.slice A2 (hgt o) c2)).toArray hZ rfl rfl (by rw [hk35'.out, hz35.out]) (by rw [hk35'.out]; exact inf35) (sg35_one _ _ _ _ rfl rfl) ?_; intro W5 hb5 hg5 hs5))
        refine bodyPost_ret (results_cell_tmp rfl _ _ w.heap.size _ _ _ _ rfl hb5 Tryd.underlying76 rfl (by rw [hk35'.out]; exact inf35)) rfl ?_
        unfold SigEnd
        rw [if_pos (by rw [← HP.out]; exact hb)]
        refine ⟨Ao, co, A2, c2, rfl, l1, l2, ?_, ?_, grown_below hB9 hg5 hB9.size (Nat.le_refl _)⟩
        · exact Rd.of_own (own_chg r1 (Chg.grown (Z := fun b => b = w.heap.size) hg5 (by rintro k h; cases h; rfl)) (fun b hb e => own_ne r1 hZ (by decide) hb e))
        · exact Rd.of_own (own_chg r2 (Chg.grown (Z := fun b => b = w.heap.size) hg5 (by rintro k h; cases h; rfl)) (fun b hb e => own_ne r2 hZ (by decide) hb e))
  · have hbi : (p2 : Int) ≤ (idx : Int) := by omega
    have hz35 : Hid (zsig.size = 35) := Lib.hid (by kernel_rfl)
    have hs0 := s0.out
    clear s0
    have HS0 := Lib.hid hs0
    clear hs0
    go_wp2_with ((with_reducible refine at_store 76 ?_); refine wpList_storeAll W0 rfl 76 _ _ rfl w.heap.size 76 _ zsig hb0 rfl rfl rfl (by rw [hz35.out]; exact inf35) (by decide) ?_; intro W5 hb5 hg5 hs5)
    refine bodyPost_ret (results_cell_tmp rfl _ _ w.heap.size _ _ _ _ rfl hb5 Tryd.underlying76 rfl (by rw [hz35.out]; exact inf35)) rfl ?_
    unfold SigEnd
    rw [if_neg (by rw [← HP.out]; exact hb)]
    exact ⟨rfl, grown_below B0 hg5 B0.size (Nat.le_refl _)⟩
end Go.Proofs.YtgfdjfglfipjfaaDoor
/-
  Walks: SigOf of any bytes, both; portreeveref04.SameNodes and SameSig.
-/
namespace Go.Proofs.YtgfdjfglfipjfaaDoor
open Go.RowKit

def sigOk (l : List UInt8) (o : Nat) : Bool := isKind o && l.length == 36 + 32 * (67 + hgt o) && decide (rdNum l 0 4 false < 2 ^ hgt o)
def sigVal (l : List UInt8) (o : Nat) : Sg := if sigOk l o then ⟨rdNum l 0 4 false, (l.drop 4).take 32, nodesAt l 0 67, nodesAt l 67 (hgt o)⟩ else ⟨0, zeroNode0, [], []⟩
def sigErr (l : List UInt8) (o : Nat) : Int := if isKind o = false then 80 else if sigOk l o then 0 else 81
/-- a signature in memory of the call's own -/
def SigRet (w : World) (g : Sg) (x : Int) (e : Ending) (w' : World) : Prop := ∃ A1 c1 A2 c2, e = .returned (.tuple #[.agg (sigCells g.i g.r (.slice A1 g.ots.length c1) (.slice A2 g.auth.length c2)).toArray, .int .i64 x]) ∧
  g.ots.length ≤ c1 ∧ g.auth.length ≤ c2 ∧ Rd w' w'.heap.size 32 A1 g.ots.length (ncells g.ots) ∧ Rd w' w'.heap.size 32 A2 g.auth.length (ncells g.auth) ∧ Below w.heap.size w w'

section
variable (A : Option Addr) (n c0 : Nat) (l : List UInt8) (o : Nat) (w : World)
set_option maxRecDepth 100000 in
set_option maxHeartbeats 2000000 in
theorem mSigOf_kind (hk : isKind o = false) :
    Calls Tryd.prog 49 #[.slice A n c0, .int .u32 o] w fun e w' => e = .returned (.tuple #[.agg zsig, .int .i64 80]) ∧ Below w.heap.size w w' := by
  have hz35 : Hid (zsig.size = 35) := Lib.hid (by kernel_rfl)
  go_enter Tryd.func49, Tryd.ntmps49
  go_wp2_with fail
  change Calls _ _ _ (w.alloc (.cells zsig 76)) _
  have B0 : Below w.heap.size w (w.alloc (.cells zsig 76)) := (Below.refl _ _).alloc (Nat.le_refl _) _
  have hb0 := Blk.new w 76 zsig
  generalize w.alloc (.cells zsig 76) = W0 at *
  refine (mHeight_any o W0).mono ?_
  rintro e w' ⟨rfl, rfl⟩
  rw [hk]
  go_wp2_with ((with_reducible refine at_store 76 ?_); refine wpList_storeAll W0 rfl 76 _ _ rfl w.heap.size 76 _ zsig hb0 rfl rfl rfl (by rw [hz35.out]; exact inf35) (by decide) ?_; intro W5 hb5 hg5 hs5)
  refine bodyPost_ret (results_cell_tmp rfl _ _ w.heap.size _ _ _ _ rfl hb5 Tryd.underlying76 rfl (by rw [hz35.out]; exact inf35)) rfl ?_
  exact ⟨rfl, grown_below B0 hg5 B0.size (Nat.le_refl _)⟩
set_option maxRecDepth 100000 in
set_option maxHeartbeats 2000000 in
theorem rSigOf_kind (hk : isKind o = false) :
    Calls Tryd.prog 52 #[.slice A n c0, .int .u32 o] w fun e w' => e = .returned (.tuple #[.agg zsig, .int .i64 80]) ∧ Below w.heap.size w w' := by
  have hz35 : Hid (zsig.size = 35) := Lib.hid (by kernel_rfl)
  go_enter Tryd.func52, Tryd.ntmps52
  go_wp2_with fail
  change Calls _ _ _ (w.alloc (.cells zsig 76)) _
  have B0 : Below w.heap.size w (w.alloc (.cells zsig 76)) := (Below.refl _ _).alloc (Nat.le_refl _) _
  have hb0 := Blk.new w 76 zsig
  generalize w.alloc (.cells zsig 76) = W0 at *
  refine (rHeight_any o W0).mono ?_
  rintro e w' ⟨rfl, rfl⟩
  rw [hk]
  go_wp2_with ((with_reducible refine at_store 76 ?_); refine wpList_storeAll W0 rfl 76 _ _ rfl w.heap.size 76 _ zsig hb0 rfl rfl rfl (by rw [hz35.out]; exact inf35) (by decide) ?_; intro W5 hb5 hg5 hs5)
  refine bodyPost_ret (results_cell_tmp rfl _ _ w.heap.size _ _ _ _ rfl hb5 Tryd.underlying76 rfl (by rw [hz35.out]; exact inf35)) rfl ?_
  exact ⟨rfl, grown_below B0 hg5 B0.size (Nat.le_refl _)⟩
set_option maxRecDepth 100000 in
set_option maxHeartbeats 2000000 in
theorem mSigOf_len (hk : isKind o = true) (hn : ¬ n = 36 + 32 * (67 + hgt o)) :
    Calls Tryd.prog 49 #[.slice A n c0, .int .u32 o] w fun e w' => e = .returned (.tuple #[.agg zsig, .int .i64 81]) ∧ Below w.heap.size w w' := by
  have hz35 : Hid (zsig.size = 35) := Lib.hid (by kernel_rfl)
  have hz : ¬ (n : Int) = (sigSize o : Nat) := by simp [sigSize, hk]; omega
  go_enter Tryd.func49, Tryd.ntmps49
  go_wp2_with fail
  change Calls _ _ _ (w.alloc (.cells zsig 76)) _
  have B0 : Below w.heap.size w (w.alloc (.cells zsig 76)) := (Below.refl _ _).alloc (Nat.le_refl _) _
  have hb0 := Blk.new w 76 zsig
  generalize w.alloc (.cells zsig 76) = W0 at *
  refine (mHeight_any o W0).mono ?_
  rintro e w' ⟨rfl, rfl⟩
  rw [hk]
  go_wp2_with fail
  refine (mSize_any o W0).mono ?_
  rintro e w' ⟨rfl, rfl⟩
  rw [hk]
  go_wp2_with ((with_reducible refine at_store 76 ?_); refine wpList_storeAll W0 rfl 76 _ _ rfl w.heap.size 76 _ zsig hb0 rfl rfl rfl (by rw [hz35.out]; exact inf35) (by decide) ?_; intro W5 hb5 hg5 hs5)
  refine bodyPost_ret (results_cell_tmp rfl _ _ w.heap.size _ _ _ _ rfl hb5 Tryd.underlying76 rfl (by rw [hz35.out]; exact inf35)) rfl ?_
  exact ⟨rfl, grown_below B0 hg5 B0.size (Nat.le_refl _)⟩
set_option maxRecDepth 100000 in
set_option maxHeartbeats 2000000 in
theorem rSigOf_len (h : Rd w w.heap.size 1 A n (bcells l)) (hn0 : n ≤ 1000000) (hk : isKind o = true) (hn : ¬ n = 36 + 32 * (67 + hgt o)) :
    Calls Tryd.prog 52 #[.slice A n c0, .int .u32 o] w fun e w' => e = .returned (.tuple #[.agg zsig, .int .i64 81]) ∧ Below w.heap.size w w' := by
  have hz35 : Hid (zsig.size = 35) := Lib.hid (by kernel_rfl)
  have hh : hgt o ≤ 20 := by unfold hgt; split <;> (try split) <;> (try split) <;> omega
  have hz : ¬ (n : Int) = 36 + 32 * (67 + (hgt o : Nat)) := by omega
  go_enter Tryd.func52, Tryd.ntmps52
  go_wp2_with fail
  change Calls _ _ _ (w.alloc (.cells zsig 76)) _
  have B0 : Below w.heap.size w (w.alloc (.cells zsig 76)) := (Below.refl _ _).alloc (Nat.le_refl _) _
  have hb0 := Blk.new w 76 zsig
  generalize w.alloc (.cells zsig 76) = W0 at *
  refine (rHeight_any o W0).mono ?_
  rintro e w' ⟨rfl, rfl⟩
  rw [hk]
  go_wp2_with fail
  refine (number_any A n c0 0 false l W0 4 ((h.below B0).more B0.size) (by omega) (by omega) (by omega)).mono ?_
  rintro e w' ⟨rfl, rfl⟩
  go_wp2_with ((with_reducible refine at_store 76 ?_); refine wpList_storeAll W0 rfl 76 _ _ rfl w.heap.size 76 _ zsig hb0 rfl rfl rfl (by rw [hz35.out]; exact inf35) (by decide) ?_; intro W5 hb5 hg5 hs5)
  refine bodyPost_ret (results_cell_tmp rfl _ _ w.heap.size _ _ _ _ rfl hb5 Tryd.underlying76 rfl (by rw [hz35.out]; exact inf35)) rfl ?_
  exact ⟨rfl, grown_below B0 hg5 B0.size (Nat.le_refl _)⟩
end

theorem sigRet_zero {w w' : World} {x : Int} {e : Ending} (he : e = .returned (.tuple #[.agg zsig, .int .i64 x])) (hB : Below w.heap.size w w') : SigRet w ⟨0, zeroNode0, [], []⟩ x e w' :=
  ⟨none, 0, none, 0, he, Nat.le_refl _, Nat.le_refl _, Rd.nil _ _ _ _, Rd.nil _ _ _ _, hB⟩
theorem sigRet_end {w w' : World} {l : List UInt8} {o : Nat} {e : Ending} (hk : isKind o = true) (hl : l.length = 36 + 32 * (67 + hgt o)) (h : SigEnd w l o (rdNum l 0 4 false) ((l.drop 4).take 32) e w') : SigRet w (sigVal l o) (sigErr l o) e w' := by
  unfold SigEnd at h
  by_cases hb : rdNum l 0 4 false < 2 ^ hgt o
  · rw [if_pos hb] at h
    obtain ⟨A1, c1, A2, c2, he, h1, h2, r1, r2, hB⟩ := h
    have hok : sigOk l o = true := by simp [sigOk, hk, hl, hb]
    rw [sigVal, sigErr, if_pos hok, if_pos hok, hk]
    have e1 : (nodesAt l 0 67).length = 67 := by simp [nodesAt]
    have e2 : (nodesAt l 67 (hgt o)).length = hgt o := by simp [nodesAt]
    refine ⟨A1, c1, A2, c2, ?_, ?_, ?_, ?_, ?_, hB⟩ <;> simp only [e1, e2]
    · exact he
    all_goals assumption
  · rw [if_neg hb] at h
    have hok : sigOk l o = false := by simp [sigOk, hk, hl, hb]
    rw [sigVal, sigErr, hok, hk]
    exact sigRet_zero h.1 h.2
theorem sigRet_no {w w' : World} {l : List UInt8} {o : Nat} {e : Ending} (hk : isKind o = false) (he : e = .returned (.tuple #[.agg zsig, .int .i64 80])) (hB : Below w.heap.size w w') : SigRet w (sigVal l o) (sigErr l o) e w' := by
  have hok : sigOk l o = false := by simp [sigOk, hk]
  rw [sigVal, sigErr, hok, hk]
  exact sigRet_zero he hB
theorem sigRet_len {w w' : World} {l : List UInt8} {o : Nat} {e : Ending} (hk : isKind o = true) (hl : ¬ l.length = 36 + 32 * (67 + hgt o)) (he : e = .returned (.tuple #[.agg zsig, .int .i64 81])) (hB : Below w.heap.size w w') : SigRet w (sigVal l o) (sigErr l o) e w' := by
  have hok : sigOk l o = false := by simp [sigOk, hl]
  rw [sigVal, sigErr, hok, hk]
  exact sigRet_zero he hB
theorem mSigOf_any (A : Option Addr) (n c0 : Nat) (l : List UInt8) (o : Nat) (w : World) (h : Rd w w.heap.size 1 A n (bcells l)) (hc : n ≤ c0) : Calls Tryd.prog 49 #[.slice A n c0, .int .u32 o] w (SigRet w (sigVal l o) (sigErr l o)) := by
  obtain rfl : n = l.length := by have := h.len; rw [bcells_length] at this; omega
  cases hk : isKind o with
  | false => exact (mSigOf_kind A _ c0 o w hk).mono fun e w' ⟨he, hB⟩ => sigRet_no hk he hB
  | true =>
    by_cases hl : l.length = 36 + 32 * (67 + hgt o)
    · exact (mSigOf_in A c0 l o w h hc hk hl _ rfl _ rfl).mono fun e w' hE => sigRet_end hk hl hE
    · exact (mSigOf_len A _ c0 o w hk hl).mono fun e w' ⟨he, hB⟩ => sigRet_len hk hl he hB
theorem rSigOf_any (A : Option Addr) (n c0 : Nat) (l : List UInt8) (o : Nat) (w : World) (h : Rd w w.heap.size 1 A n (bcells l)) (hn : n ≤ 1000000) (hc : n ≤ c0) : Calls Tryd.prog 52 #[.slice A n c0, .int .u32 o] w (SigRet w (sigVal l o) (sigErr l o)) := by
  obtain rfl : n = l.length := by have := h.len; rw [bcells_length] at this; omega
  cases hk : isKind o with
  | false => exact (rSigOf_kind A _ c0 o w hk).mono fun e w' ⟨he, hB⟩ => sigRet_no hk he hB
  | true =>
    by_cases hl : l.length = 36 + 32 * (67 + hgt o)
    · exact (rSigOf_in A c0 l o w h hc hk hl _ rfl _ rfl).mono fun e w' hE => sigRet_end hk hl hE
    · exact (rSigOf_len A _ c0 l o w h hn hk hl).mono fun e w' ⟨he, hB⟩ => sigRet_len hk hl he hB
end Go.Proofs.YtgfdjfglfipjfaaDoor
/-
  Walks: portreeveref04.SameSig.
-/
namespace Go.Proofs.YtgfdjfglfipjfaaDoor
open Go.RowKit

theorem sig_root {w : World} {g : Nat} {t : TypeId} {i : Nat} {r : List UInt8} {v1 v2 : Value} (h : Blk w g t (sigCells i r v1 v2).toArray) : w.rangeAt g 1 (bcells r) := fun j v hv => by
  rw [h.cell, Nat.add_comm 1 j]
  simp only [sigCells, List.getElem?_toArray, List.getElem?_cons_succ]
  rw [List.getElem?_append_left (List.getElem?_eq_some_iff.1 hv).1]; exact hv

structure Sg.ok (g : Sg) : Prop where
  i : g.i < 4294967296
  r : g.r.length = 32
  ots : ∀ x ∈ g.ots, x.length = 32
  auth : ∀ x ∈ g.auth, x.length = 32

end Go.Proofs.YtgfdjfglfipjfaaDoor
/-
  Walk of the statement XmssSigs.
-/
namespace Go.Proofs.YtgfdjfglfipjfaaDoor
open Go.RowKit

theorem sigVal_ok (l : List UInt8) (o : Nat) : (sigVal l o).ok := by
  have hz : zeroNode0.length = 32 := rfl
  unfold sigVal
  split
  · rename_i h
    simp only [sigOk, Bool.and_eq_true, beq_iff_eq, decide_eq_true_eq] at h
    have hh : hgt o ≤ 20 := by unfold hgt; split <;> (try split) <;> (try split) <;> omega
    refine ⟨rdNum_lt l 0 4 false, by simp; omega, ?_, ?_⟩
    · intro x hx
      simp only [nodesAt, List.mem_map, List.mem_range] at hx
      obtain ⟨k, hk, rfl⟩ := hx
      exact nodeAt_length l _ (by omega)
    · intro x hx
      simp only [nodesAt, List.mem_map, List.mem_range] at hx
      obtain ⟨k, hk, rfl⟩ := hx
      exact nodeAt_length l _ (by omega)
  · exact ⟨by show (0 : Nat) < 4294967296; omega, hz, by simp, by simp⟩
theorem sigVal_len (l : List UInt8) (o : Nat) : (sigVal l o).ots.length ≤ 67 ∧ (sigVal l o).auth.length ≤ 20 := by
  have hh : hgt o ≤ 20 := by unfold hgt; split <;> (try split) <;> (try split) <;> omega
  unfold sigVal
  split <;> simp [nodesAt, hh]

end Go.Proofs.YtgfdjfglfipjfaaDoor
/-
  Walk: xmss.PutSig.
-/
namespace Go.Proofs.YtgfdjfglfipjfaaDoor
open Go.RowKit

theorem run_buildB2 (w : World) (A1 : Option Addr) (n1 c1 : Nat) (A2 : Option Addr) (n2 c2 : Nat) :
    (Instr.buildSlice 117 2 #[(0, .slice A1 n1 c1), (1, .slice A2 n2 c2)]).run Tryd.prog w = .ok (.slice (some ⟨w.heap.size, 0, none⟩) 2 2) (w.alloc (.cells #[.slice A1 n1 c1, .slice A2 n2 c2] 43)) := by
  go_simp
def sigBytes (g : Sg) : List UInt8 := putNum g.i 4 false ++ (g.r ++ (g.ots.flatten ++ g.auth.flatten))
/-- nodes that lie side by side, as slices -/
def nodeBs (b o : Nat) (ns : List (List UInt8)) (k : Nat) : List Bs := (List.range k).map fun i => ⟨some ⟨b, o + i * 32, none⟩, 32, 32, ns[i]?.getD []⟩
theorem nodeBs_succ (b o : Nat) (ns : List (List UInt8)) (k : Nat) : nodeBs b o ns (k + 1) = nodeBs b o ns k ++ [⟨some ⟨b, o + k * 32, none⟩, 32, 32, ns[k]?.getD []⟩] := by simp [nodeBs, List.range_succ]
theorem nodeBs_all (b o : Nat) (ns : List (List UInt8)) : ∀ k, k ≤ ns.length → Bs.all (nodeBs b o ns k) = (ns.take k).flatten
  | 0, _ => by simp [nodeBs, Bs.all]
  | k + 1, h => by
    have ih := nodeBs_all b o ns k (by omega)
    rw [nodeBs_succ, List.take_succ_eq_append_getElem (by omega)]
    simp only [Bs.all, List.flatMap_append, List.flatten_append] at ih ⊢
    rw [ih, List.getElem?_eq_getElem (by omega)]
    simp
theorem nodeBs_tot (b o : Nat) (ns : List (List UInt8)) : ∀ k, Bs.tot (nodeBs b o ns k) = 32 * k
  | 0 => by simp [nodeBs, Bs.tot]
  | k + 1 => by
    have ih := nodeBs_tot b o ns k
    rw [nodeBs_succ]
    simp only [Bs.tot, List.map_append, List.sum_append] at ih ⊢
    rw [ih]; simp; omega
theorem nodeBs_ok {w : World} {B b o : Nat} {ns : List (List UInt8)} (hl : ∀ x ∈ ns, x.length = 32) (h : w.rangeAt b o (ncells ns)) (hb : b < B) (k : Nat) (hk : k ≤ ns.length) : ∀ x ∈ nodeBs b o ns k, x.ok w B := by
  intro x hx
  simp only [nodeBs, List.mem_map, List.mem_range] at hx
  obtain ⟨i, hi, rfl⟩ := hx
  have hi' : i < ns.length := by omega
  have hr := range_node h hl i hi'
  simp only [Bs.ok, List.getElem?_eq_getElem hi', Option.getD_some]
  exact ⟨by rw [bcells_length, hl _ (List.getElem_mem hi')], fun j v hv => ⟨_, rfl, hb, by rw [Addr.add_mid]; exact hr j v hv⟩⟩
theorem tot_append (a b : List Bs) : Bs.tot (a ++ b) = Bs.tot a + Bs.tot b := by simp [Bs.tot]
theorem all_append (a b : List Bs) : Bs.all (a ++ b) = Bs.all a ++ Bs.all b := by simp [Bs.all]

theorem own_base {w : World} {base base' : Nat} {e : TypeId} {size : Nat} {v : Value} {n : Nat} {xs : List Value} (h : w.ownsRow base e size v n xs) (hb : base' ≤ base) : w.ownsRow base' e size v n xs := by
  refine ⟨h.1, ?_⟩
  rcases h.2 with h2 | ⟨g, cap, cur, h1, h2, h3⟩
  · exact .inl h2
  · exact .inr ⟨g, cap, cur, h1, by omega, h3⟩
theorem own_ne2 {w : World} {b1 b2 s1 s2 n1 n2 : Nat} {e1 e2 : TypeId} {v1 v2 : Value} {x1 x2 : List Value} {b : Nat} (h1 : w.ownsRow b1 e1 s1 v1 n1 x1) (h2 : w.ownsRow b2 e2 s2 v2 n2 x2) (he : e1 ≠ e2) (hb : v1.ownBlock = some b) : ¬ v2.ownBlock = some b := by
  intro hb2
  rcases h1.2 with ⟨rfl, _⟩ | ⟨g, cap, cur, rfl, _, hh, _⟩
  · cases hb
  · cases hb
    exact own_ne h2 (g := g) (cs := cur) hh he hb2 rfl

/-- the parts, as the loops gather them -/
def Parts (w : World) (B : Nat) (ps : List Bs) (A4 : Option Addr) (c4 : Nat) (put : List UInt8) (v : Value) (wr : World) : Prop :=
  Below w.heap.size w wr ∧ B ≤ wr.heap.size ∧ wr.ownsRow B 5 1 (.slice A4 4 c4) 4 (bcells put) ∧ ∃ A c, v = .slice A ps.length c ∧ wr.ownsRow B 43 1 (.slice A ps.length c) ps.length (ps.map Bs.val)
theorem wpList_part {ops : Array Oper} {rest : List Oper} {o : Oper} {a : Act} {Q : Exit → Act → World → Prop} (W : World) (hgd : o.guard = none) (s x : Operand) (ho : o.op = .call { callee := .builtin .append, args := #[s, x], argTypes := #[117, 117] })
    (w : World) (B : Nat) (ps : List Bs) (A4 : Option Addr) (c4 : Nat) (put : List UInt8) (v : Value) (hB0 : w.heap.size ≤ B) (hP : Parts w B ps A4 c4 put v W) (hs : a.eval s = v) (b : Bs) (hx : a.eval x = .slice (some ⟨W.heap.size, 0, none⟩) 1 1) (hn : ps.length ≤ 1000000)
    (h : ∀ v' W5, Parts w B (ps ++ [b]) A4 c4 put v' W5 → Below B W W5 → wpList Tryd.prog ops Q rest (a.put o.dst v') W5) :
    wpList Tryd.prog ops Q (o :: rest) a (W.alloc (.cells #[b.val] 43)) := by
  obtain ⟨h1, h2, h3, A, c, rfl, hO⟩ := hP
  refine wpList_app1 W elBB hgd s x ho B A ps.length c _ hs hO b.val hx rfl (by omega) (by omega) h2 ?_
  intro A' c' W5 hO5 hg5 hB5
  refine h (.slice A' (ps.length + 1) c') W5 ⟨h1.trans (hB5.mono hB0), Nat.le_trans h2 hg5.size, h3.kept hg5 ?_, A', c', by rw [List.length_append]; rfl, by rw [List.length_append, List.map_append]; exact hO5⟩ hB5
  by_cases hv : (Value.slice A4 4 c4).ownBlock = none
  · exact .inl hv
  · right
    intro e
    cases hb : (Value.slice A4 4 c4).ownBlock with
    | none => exact hv hb
    | some k => rw [hb] at e; exact own_ne2 h3 hO (by decide) hb e.symm

def putOk (g : Sg) (o : Nat) : Bool := isKind o && may g.ots.length g.auth.length g.i (hgt o)

set_option maxRecDepth 100000 in
set_option maxHeartbeats 4000000 in
theorem mPutSig_yes (g : Sg) (ok : g.ok) (o : Nat) (hk : isKind o = true) (hm : may g.ots.length g.auth.length g.i (hgt o) = true) (A1 A2 : Option Addr) (d1 d2 : Nat) (w : World)
    (r1 : Rd w w.heap.size 32 A1 g.ots.length (ncells g.ots)) (r2 : Rd w w.heap.size 32 A2 g.auth.length (ncells g.auth)) :
    Calls Tryd.prog 43 #[.agg (sigCells g.i g.r (.slice A1 g.ots.length d1) (.slice A2 g.auth.length d2)).toArray, .int .u32 o] w (BytesErr w (sigBytes g) 0) := by
  have hh : hgt o ≤ 20 := by unfold hgt; split <;> (try split) <;> (try split) <;> omega
  have hb := Blk.new w 76 (sigCells g.i g.r (.slice A1 g.ots.length d1) (.slice A2 g.auth.length d2)).toArray
  have B1 : Below w.heap.size w (w.alloc (.cells (sigCells g.i g.r (.slice A1 g.ots.length d1) (.slice A2 g.auth.length d2)).toArray 76)) := (Below.refl _ _).alloc (Nat.le_refl _) _
  have hm' := hm
  simp only [may, Bool.and_eq_true, beq_iff_eq, decide_eq_true_eq] at hm'
  obtain ⟨⟨n67, nh⟩, _⟩ := hm'
  have HM := Lib.hid hm
  have N67 := Lib.hid n67
  have NH := Lib.hid nh
  have hv35 : Hid ((sigCells g.i g.r (.slice A1 g.ots.length d1) (.slice A2 g.auth.length d2)).toArray.size = 35) := Lib.hid (sg35 _ _ _ _ ok.r)
  have hb36 := fun W => run_sig36 g.i g.r (.slice A1 g.ots.length d1) (.slice A2 g.auth.length d2) (hgt o) W ok.r
  clear n67 nh hm
  go_enter Tryd.func43, Tryd.ntmps43
  go_wp2_with fail
  generalize w.alloc (.cells (sigCells g.i g.r (.slice A1 g.ots.length d1) (.slice A2 g.auth.length d2)).toArray 76) = W0 at *
  refine (mHeight_any o W0).mono ?_
  rintro e w' ⟨rfl, rfl⟩
  rw [hk]
  go_wp2_with (first
    | ((with_reducible refine at_load 76 ?_); refine wpList_loadAll W0 rfl 76 _ rfl w.heap.size 76 _ hb _ rfl Tryd.underlying76 rfl (by rw [hv35.out]; exact inf35) ?_)
    | ((with_reducible refine at_build 116 ?_); refine wpList_buildV W0 rfl #[(0, .agg (sigCells g.i g.r (.slice A1 g.ots.length d1) (.slice A2 g.auth.length d2)).toArray), (1, .int .i64 (hgt o : Nat))] rfl ?_ (hb36 W0) ?_; (simp [Act.eval]))
    | fail)
  refine (may_any g.i g.r ok.r A1 A2 g.ots.length d1 g.auth.length d2 (hgt o) ok.i hh W0).mono ?_
  rintro e W1 ⟨rfl, hB1⟩
  rw [HM.out]
  have hb := hb.below hB1 hb.lt
  have B2 := B1.trans (hB1.mono B1.size)
  go_wp2_with fail
  have hR := (sig_root hb.drew)
  have hsz1 := hb.lt
  have HR : Hid (∀ W, Below W1.drew.heap.size W1.drew W → W.rangeAt w.heap.size 1 (bcells g.r)) := Lib.hid fun W hB => hR.later hB hsz1
  have hc0 : Hid (∀ W, Below W1.drew.heap.size W1.drew W → W.cell? ⟨w.heap.size, 0, none⟩ = some (.int .u32 g.i)) := Lib.hid fun W hB => (sig_cell35 ok.r (hb.drew.below hB hsz1)).1
  clear hR
  refine Flow.wp_region_flow (W1.drew.heap.size) [] [] (by kernel_rfl) (by kernel_rfl) (Nat.le_refl _) (fun _ h => by cases h) Flow.facts_nil ?_
  apply Flow.pass_val (hm := (Flow.met_none rfl))
  · intro a W hH
    have e0 := Flow.see_old 2 hH.sees (by kernel_rfl) (by kernel_rfl) rfl
    go_simp; first | done | rfl
  refine Flow.pass_val (.int .u32 (g.i : Nat)) (Flow.met_none rfl) (fun a W hH => ?_) ?_
  · have e0 := Flow.see_new 25 0 hH.sees (by kernel_rfl) (by kernel_rfl) rfl rfl
    have cc := hc0.out W hH.below; go_simp
  apply Flow.pass_build (hkept := Flow.kept_of (Flow.kept_built _ _ _) Flow.kz_nil) (hm := (Flow.met_none rfl))
  · intro a W hH
    have e0 := Flow.see_new 26 1 hH.sees (by kernel_rfl) (by kernel_rfl) rfl rfl
    go_simp; first | done | rfl | exact ⟨rfl, rfl⟩
  refine Flow.pass_step (fun v W => ∃ A c, v = .slice A 4 c ∧ W.ownsRow W1.heap.size 5 1 (.slice A 4 c) 4 (bcells (putNum g.i 4 false))) (Flow.kept_of (fun _ _ _ c ⟨A, k, h1, h2⟩ => ⟨A, k, h1, own_chg h2 c (fun _ _ => id)⟩) Flow.kz_nil) (Flow.met_none rfl) (fun a W hH => ?_) ?_
  · obtain ⟨b0, e0, q0⟩ := Flow.see_up 27 2 hH.sees (by kernel_rfl) (by kernel_rfl) rfl rfl
    refine Reg.wp_call rfl Tryd.func57 rfl (by kernel_rfl) (by simp [Act.eval, e0]) (putBe32_any none 0 0 [] W (some ⟨b0, 0, none⟩) 1 1 [g.i] (Rd.nil _ _ _ _) (by omega) (q0.rd rfl) (by omega)) ?_
    rintro e w' ⟨A9, c9, rfl, hO, hB⟩
    have hO1 : w'.ownsRow W.heap.size 5 1 (.slice A9 4 c9) 4 (bcells (putNum g.i 4 false)) := by simpa [putAll] using hO
    exact ⟨_, rfl, _, rfl, hB, A9, c9, rfl, own_base hO1 hH.below.size⟩
  apply Flow.pass_val (hm := (Flow.met_none rfl))
  · intro a W hH
    have e0 := Flow.see_old 2 hH.sees (by kernel_rfl) (by kernel_rfl) rfl
    go_simp; first | done | rfl
  apply Flow.pass_val (hm := (Flow.met_none rfl))
  · intro a W hH
    have e0 := Flow.see_new 29 4 hH.sees (by kernel_rfl) (by kernel_rfl) rfl rfl
    go_simp; first | done | rfl
  refine Flow.pass_gen (fun v W => ∃ A c b, v = .slice (some ⟨b, 0, none⟩) 2 2 ∧ (W1.heap.size ≤ b ∧ Blk W b 43 #[.slice A 4 c, .slice (some ⟨w.heap.size, 1, none⟩) 32 32] ∧ W.ownsRow W1.heap.size 5 1 (.slice A 4 c) 4 (bcells (putNum g.i 4 false)))) (Flow.kept_of (fun _ _ _ c ⟨A, k, b, h1, h0, h2, h3⟩ => ⟨A, k, b, h1, h0, h2.ext c.ext, own_chg h3 c (fun _ _ => id)⟩) Flow.kz_nil) (Flow.met_none rfl) (fun a W hH => ?_) ?_
  · obtain ⟨A0, c0, e0, q0⟩ := Flow.see_up 28 3 hH.sees (by kernel_rfl) (by kernel_rfl) rfl rfl
    have e1 := Flow.see_new 30 5 hH.sees (by kernel_rfl) (by kernel_rfl) rfl rfl
    refine Flow.wp_run (Flow.reg_buildSlice _ rfl (by simp [Act.eval, e0, e1]) (run_buildB2 W A0 4 c0 (some ⟨w.heap.size, 1, none⟩) 32 32)) ?_
    refine ⟨_, rfl, Chg.of_ext ((Ext.refl W).alloc _), A0, c0, W.heap.size, rfl, hH.below.size, Blk.new _ _ _, ?_⟩
    exact q0.alloc _
  refine Flow.pass_copy 31 6 (Flow.met_none rfl) (.inr rfl) (by kernel_rfl) (by kernel_rfl) rfl rfl (Flow.kept_of (fun _ _ _ c ⟨A, k, b, h1, h0, h2, h3⟩ => ⟨A, k, b, h1, h0, h2.ext c.ext, own_chg h3 c (fun _ _ => id)⟩) Flow.kz_nil) ?_
  refine Flow.pass_end [none, none, none, none, none, none, none, none, some 8, none, none, none, none, none, none, none, none, none, none, none, none, none, none, none, none, some 25, some 26, some 27, some 28, some 29, some 30, some 31, none, none, none, none, none, none, none, none, none, none, none, none, none, none, none, none, none, none, none, none, none, none, none, none, none, none, none, none, none, none, none, none] (by kernel_rfl) ?_
  intro f gg w9 hB hfa hT hfg
  obtain ⟨A8, c8, b8, h8, g8⟩ := hT 7 _ (by kernel_rfl) rfl
  rw [← hfg 8 7 (by kernel_rfl)] at h8
  obtain ⟨hbb, hB8, hO4⟩ := g8
  simp only [Reg.sel, h8]
  clear hT hfg hfa h8 hc0
  have B9 := B2.trans ((Below.drew (Below.refl W1.heap.size W1)).trans hB |>.mono (Nat.le_of_lt hsz1))
  have hb := hb.below ((Below.drew (Below.refl W1.heap.size W1)).trans hB) hsz1
  obtain ⟨ps0, hps0⟩ : ∃ ps0 : List Bs, ps0 = [⟨A8, 4, c8, putNum g.i 4 false⟩, ⟨some ⟨w.heap.size, 1, none⟩, 32, 32, g.r⟩] := ⟨_, rfl⟩
  have hP0 : Parts w W1.heap.size ps0 A8 c8 (putNum g.i 4 false) (.slice (some ⟨b8, 0, none⟩) 2 2) w9 := by
    rw [hps0]
    exact ⟨B9, hB.size, hO4, some ⟨b8, 0, none⟩, 2, rfl, hB8.own hbb rfl (Nat.le_refl _) (by omega)⟩
  have hl0 : ps0.length = 2 := by rw [hps0]; rfl
  have HL0 := Lib.hid hl0
  have HPS := Lib.hid hps0
  clear hps0 hl0 hB8 hO4 hbb hb36 hB1 B1
  obtain ⟨b1, o1, rfl, hb1, hr1⟩ := r1.range (by have := N67.out; omega)
  have hcell := (sig_cell35 ok.r hb).2.1
  go_wp2_with fail
  clear hcell hB
  go_loopw [8, 35] (fun v i wr => ∃ k : Nat, k ≤ 67 ∧ i = .int .i64 k ∧ Parts w W1.heap.size (ps0 ++ nodeBs b1 o1 g.ots k) A8 c8 (putNum g.i 4 false) v wr ∧ Blk wr w.heap.size 76 (sigCells g.i g.r (.slice (some ⟨b1, o1, none⟩) g.ots.length d1) (.slice A2 g.auth.length d2)).toArray) (fun _ i _ => 67 - (intOf i).toNat)
  case atStart => exact ⟨0, by omega, rfl, by simpa [nodeBs] using hP0, hb⟩
  case round =>
    obtain ⟨k, hk67, rfl, hP, hb⟩ := hrel
    have hcell := (sig_cell35 ok.r hb).2.1
    by_cases hlt : k < 67
    · have hk2 : k < g.ots.length := by have := N67.out; omega
      have hbs := nodeBs_succ b1 o1 g.ots k
      have HBS := Lib.hid hbs
      have hlen : (ps0 ++ nodeBs b1 o1 g.ots k).length ≤ 1000000 := by rw [List.length_append, HL0.out]; simp [nodeBs]; omega
      have HLEN := Lib.hid hlen
      clear hbs hlen
      go_wp2_with (first
        | ((with_reducible refine at_append ?_); refine wpList_part wr rfl _ _ rfl w W1.heap.size (ps0 ++ nodeBs b1 o1 g.ots k) A8 c8 (putNum g.i 4 false) _ (Nat.le_of_lt hsz1) hP rfl ⟨some ⟨b1, o1 + k * 32, none⟩, 32, 32, g.ots[k]?.getD []⟩ rfl HLEN.out ?_; intro v' W5 hP5 hB5)
        | fail)
      have hb5 := hb.below hB5 hsz1
      rw [List.append_assoc, ← HBS.out] at hP5
      clear hP hb hB5 hcell
      go_roundw
      case rel => exact ⟨k + 1, by omega, by go_num, hP5, hb5⟩
      case measure => simp [intOf]; omega
    · obtain rfl : k = 67 := by omega
      have hlg : ¬ (67 : Int) < (g.ots.length : Nat) := by have := N67.out; omega
      have hcell2 := (sig_cell35 ok.r hb).2.2
      obtain ⟨ps1, hps1⟩ : ∃ ps1, ps1 = ps0 ++ nodeBs b1 o1 g.ots 67 := ⟨_, rfl⟩
      rw [← hps1] at hP
      have HP1 := Lib.hid hps1
      have hl1 : Hid (ps1.length = 69) := Lib.hid (by rw [hps1, List.length_append, HL0.out]; simp [nodeBs])
      clear hps1 hcell
      obtain ⟨b2, o2, rfl, hb2, hr2⟩ : ∃ b2 o2, A2 = some ⟨b2, o2, none⟩ ∧ b2 < w.heap.size ∧ w.rangeAt b2 o2 (ncells g.auth) := by
        refine r2.range ?_
        have := NH.out
        have : 10 ≤ hgt o := by
          simp only [isKind, Bool.or_eq_true, beq_iff_eq] at hk
          rcases hk with (rfl | rfl) | rfl <;> decide
        omega
      go_wp2_with fail
      clear hcell2
      go_loopw [8, 50] (fun v i wr => ∃ k : Nat, k ≤ g.auth.length ∧ i = .int .i64 k ∧ Parts w W1.heap.size (ps1 ++ nodeBs b2 o2 g.auth k) A8 c8 (putNum g.i 4 false) v wr ∧ Blk wr w.heap.size 76 (sigCells g.i g.r (.slice (some ⟨b1, o1, none⟩) g.ots.length d1) (.slice (some ⟨b2, o2, none⟩) g.auth.length d2)).toArray) (fun _ i _ => g.auth.length - (intOf i).toNat)
      case atStart => exact ⟨0, by omega, rfl, by simpa [nodeBs] using hP, hb⟩
      case round =>
        obtain ⟨k, hka, rfl, hP, hb⟩ := hrel
        have hcell := (sig_cell35 ok.r hb).2.2
        by_cases hlt : k < g.auth.length
        · have HLT := Lib.hid hlt
          have hkb : k ≤ 100 := by have := NH.out; omega
          have HBS := Lib.hid (nodeBs_succ b2 o2 g.auth k)
          have HLEN : Hid ((ps1 ++ nodeBs b2 o2 g.auth k).length ≤ 1000000) := Lib.hid (by rw [List.length_append, hl1.out]; simp [nodeBs]; have := NH.out; omega)
          go_wp2_with (first
            | ((with_reducible refine at_append ?_); refine wpList_part wr rfl _ _ rfl w W1.heap.size (ps1 ++ nodeBs b2 o2 g.auth k) A8 c8 (putNum g.i 4 false) _ (Nat.le_of_lt hsz1) hP rfl ⟨some ⟨b2, o2 + k * 32, none⟩, 32, 32, g.auth[k]?.getD []⟩ rfl HLEN.out ?_; intro v' W5 hP5 hB5)
            | fail)
          have hb5 := hb.below hB5 hsz1
          rw [List.append_assoc, ← HBS.out] at hP5
          clear hP hb hB5 hcell
          go_roundw
          case rel => exact ⟨k + 1, by have := HLT.out; omega, by go_num, hP5, hb5⟩
          case measure => simp [intOf]; have := HLT.out; omega
        · obtain rfl : k = g.auth.length := by omega
          clear hcell
          obtain ⟨BW, hBW, hO4, A, c, rfl, hO⟩ := hP
          have hwr := BW.size
          have hps : ∀ b ∈ ps1 ++ nodeBs b2 o2 g.auth g.auth.length, b.ok wr wr.heap.size := by
            intro x hx
            have hR1 := sig_root hb
            rcases List.mem_append.1 hx with hx | hx
            · rw [HP1.out] at hx
              rcases List.mem_append.1 hx with hx | hx
              · rw [HPS.out] at hx
                simp only [List.mem_cons, List.not_mem_nil, or_false] at hx
                rcases hx with rfl | rfl
                · exact Rd.of_own hO4
                · exact ⟨by simp [bcells_length, ok.r], fun j v hv => ⟨_, rfl, hb.lt, by rw [Addr.add_mid]; exact hR1 j v hv⟩⟩
              · exact nodeBs_ok ok.ots (hr1.later BW hb1) (Nat.lt_of_lt_of_le hb1 hwr) 67 (by have := N67.out; omega) x hx
            · exact nodeBs_ok ok.auth (hr2.later BW hb2) (Nat.lt_of_lt_of_le hb2 hwr) _ (Nat.le_refl _) x hx
          have htot : Bs.tot (ps1 ++ nodeBs b2 o2 g.auth g.auth.length) = (sigBytes g).length ∧ Bs.all (ps1 ++ nodeBs b2 o2 g.auth g.auth.length) = sigBytes g := by
            have ea : Bs.all (ps1 ++ nodeBs b2 o2 g.auth g.auth.length) = sigBytes g := by
              rw [HP1.out, all_append, all_append, nodeBs_all b1 o1 g.ots 67 (by have := N67.out; omega), nodeBs_all b2 o2 g.auth _ (Nat.le_refl _), HPS.out]
              rw [List.take_of_length_le (by have := N67.out; omega), List.take_of_length_le (Nat.le_refl _)]
              simp [Bs.all, sigBytes]
            refine ⟨?_, ea⟩
            rw [← ea]
            have := Rd.of_own hO
            have hsum : ∀ l : List Bs, (∀ b ∈ l, b.l.length = b.n) → Bs.tot l = (Bs.all l).length := by
              intro l
              induction l with
              | nil => intro _; rfl
              | cons x l ih =>
                intro h
                have := ih fun b hb => h b (by simp [hb])
                simp only [Bs.tot, Bs.all, List.map_cons, List.sum_cons, List.flatMap_cons, List.length_append] at this ⊢
                rw [this, h x (by simp)]
            refine hsum _ fun b hb => ?_
            have := (hps b hb).len
            rw [bcells_length] at this; omega
          obtain ⟨htot, hall⟩ := htot
          have hsl : (sigBytes g).length ≤ 3000 := by
            rw [← htot, HP1.out, tot_append, tot_append, nodeBs_tot, nodeBs_tot, HPS.out]
            simp [Bs.tot]; have := NH.out; omega
          have hcnt : (ps1 ++ nodeBs b2 o2 g.auth g.auth.length).length ≤ 1000000 := by rw [List.length_append, hl1.out]; simp [nodeBs]; have := NH.out; omega
          generalize ps1 ++ nodeBs b2 o2 g.auth g.auth.length = ps at *
          have HT := Lib.hid htot
          have HA := Lib.hid hall
          have HC := Lib.hid hcnt
          clear htot hall hcnt
          go_wp2_with fail
          refine (cat_any A ps.length c ps wr (Rd.of_own hO) hps (by rw [HT.out]; omega) HC.out).mono ?_
          rintro e W9 ⟨A9, c9, rfl, hO9, hB9⟩
          rw [HT.out, HA.out] at hO9
          rw [HT.out]
          go_wp2
          go_ret2
          exact ⟨A9, c9, rfl, Flow.own_le hO9, Rd.of_own hO9, BW.trans (hB9.mono hwr)⟩
end Go.Proofs.YtgfdjfglfipjfaaDoor
/-
  Walk: portreeveref04.PutSig; both PutSig of any signature.
-/
namespace Go.Proofs.YtgfdjfglfipjfaaDoor
open Go.RowKit

/-- bytes of the call's own, as a loop gathers them -/
def Bt (w : World) (B : Nat) (L : List UInt8) (v : Value) (wr : World) : Prop :=
  Below w.heap.size w wr ∧ B ≤ wr.heap.size ∧ ∃ A c, v = .slice A L.length c ∧ wr.ownsRow B 5 1 (.slice A L.length c) L.length (bcells L)
theorem Bt.chg {w wr W : World} {B : Nat} {L : List UInt8} {v : Value} (h : Bt w B L v wr) (c : Chg (fun b => b = wr.heap.size) wr W) : Bt w B L v W := by
  obtain ⟨h1, h2, A, k, rfl, hO⟩ := h
  refine ⟨h1.trans (c.below (n := w.heap.size) (fun j e => by have e2 : j = wr.heap.size := e; have := h1.size; omega) h1.size), Nat.le_trans h2 c.size, A, k, rfl, own_chg hO c fun b hb e => ?_⟩
  have := (own_some hO hb).2
  have e2 : b = wr.heap.size := e
  omega
theorem take_flatten (ns : List (List UInt8)) (k : Nat) (h : k < ns.length) : (ns.take (k + 1)).flatten = (ns.take k).flatten ++ ns[k] := by
  rw [List.take_succ_eq_append_getElem h, List.flatten_append]; simp
theorem flatten_length (ns : List (List UInt8)) (h : ∀ x ∈ ns, x.length = 32) : ns.flatten.length = 32 * ns.length := by
  induction ns with
  | nil => rfl
  | cons a l ih =>
    have := ih fun x hx => h x (by simp [hx])
    rw [List.flatten_cons, List.length_append, this, h a (by simp)]; simp; omega
theorem wpList_bt {ops : Array Oper} {rest : List Oper} {o : Oper} {a : Act} {Q : Exit → Act → World → Prop} (W : World) (hgd : o.guard = none) (s x : Operand) (ho : o.op = .call { callee := .builtin .append, args := #[s, x], argTypes := #[43, 43] })
    (w : World) (B : Nat) (L : List UInt8) (v : Value) (hB0 : w.heap.size ≤ B) (hP : Bt w B L v W) (hs : a.eval s = v) (B2 : Nat) (A2 : Option Addr) (m c2 : Nat) (L2 : List UInt8) (hx : a.eval x = .slice A2 m c2) (hr : Rd W B2 1 A2 m (bcells L2)) (hn : L.length + m ≤ 100000000)
    (h : ∀ v' W5, Bt w B (L ++ L2) v' W5 → Below B W W5 → wpList Tryd.prog ops Q rest (a.put o.dst v') W5) : wpList Tryd.prog ops Q (o :: rest) a W := by
  obtain ⟨h1, h2, A, c, rfl, hO⟩ := hP
  have hm : L2.length = m := by have := hr.len; rw [bcells_length] at this; omega
  refine wpList_app W el8 hgd s x ho B A L.length c _ hs hO B2 A2 m c2 (bcells L2) hx hr (bcells_one L2) (by omega) (by omega) h2 ?_
  intro A' c' W5 hO5 hg5 hB5 _
  refine h _ W5 ⟨h1.trans (hB5.mono hB0), Nat.le_trans h2 hg5.size, A', c', by rw [List.length_append, hm], ?_⟩ hB5
  rw [List.length_append, hm, bcells_append]; exact hO5
theorem shl_one32 (h : Nat) (hh : h ≤ 20) : IntKind.u32.wrap (2 ^ h) = ((2 ^ h : Nat) : Int) := by
  have : (2 : Nat) ^ h ≤ 2 ^ 20 := Nat.pow_le_pow_right (by omega) hh
  rw [IntWalk.u32_in _ (by constructor; exact Int.pow_nonneg (by omega); have : ((2 : Int) ^ h) = ((2 ^ h : Nat) : Int) := by rw [Int.natCast_pow]; rfl
                           omega)]
  rw [Int.natCast_pow]; rfl

set_option maxRecDepth 100000 in
set_option maxHeartbeats 4000000 in
theorem rPutSig_no (g : Sg) (ok : g.ok) (o : Nat) (hk : isKind o = true) (hm : may g.ots.length g.auth.length g.i (hgt o) = false) (A1 A2 : Option Addr) (d1 d2 : Nat) (w : World) :
    Calls Tryd.prog 47 #[.agg (sigCells g.i g.r (.slice A1 g.ots.length d1) (.slice A2 g.auth.length d2)).toArray, .int .u32 o] w fun e w' => e = .returned (.tuple #[.slice none 0 0, .int .i64 81]) ∧ Below w.heap.size w w' := by
  have hh : hgt o ≤ 20 := by unfold hgt; split <;> (try split) <;> (try split) <;> omega
  have hb := Blk.new w 76 (sigCells g.i g.r (.slice A1 g.ots.length d1) (.slice A2 g.auth.length d2)).toArray
  have B1 : Below w.heap.size w (w.alloc (.cells (sigCells g.i g.r (.slice A1 g.ots.length d1) (.slice A2 g.auth.length d2)).toArray 76)) := (Below.refl _ _).alloc (Nat.le_refl _) _
  have hw := shl_one32 (hgt o) hh
  obtain ⟨p2, hp2⟩ : ∃ p2, p2 = 2 ^ hgt o := ⟨_, rfl⟩
  rw [← hp2] at hw
  obtain ⟨x0, x1, x2⟩ := sig_cell35 ok.r hb
  simp only [may, ← hp2] at hm
  clear hp2
  go_enter Tryd.func47, Tryd.ntmps47
  go_wp2_with fail
  generalize w.alloc (.cells (sigCells g.i g.r (.slice A1 g.ots.length d1) (.slice A2 g.auth.length d2)).toArray 76) = W0 at *
  refine (rHeight_any o W0).mono ?_
  rintro e w' ⟨rfl, rfl⟩
  rw [hk]
  by_cases n67 : g.ots.length = 67
  · by_cases nh : g.auth.length = hgt o
    · have hi : ¬ g.i < p2 := by intro hi; simp [n67, nh, hi] at hm
      clear hm
      go_wp2_with fail
      go_quiet (fail)
      go_wp2
      go_ret2
      exact ⟨rfl, below_drewN B1 _⟩
    · clear hm
      have e1 : (((g.auth.length : Nat) : Int) == (hgt o : Nat)) = false := by simp; omega
      have e2 : (((g.auth.length : Nat) : Int) != (hgt o : Nat)) = true := by simp; omega
      go_wp2_with fail
      go_quiet (fail)
      go_wp2
      go_ret2
      exact ⟨rfl, below_drewN B1 _⟩
  · clear hm
    have e1 : (((g.ots.length : Nat) : Int) == 67) = false := by simp; omega
    have e2 : (((g.ots.length : Nat) : Int) != 67) = true := by simp; omega
    go_wp2_with fail
    go_quiet (fail)
    go_wp2
    go_ret2
    exact ⟨rfl, below_drewN B1 _⟩

set_option maxRecDepth 100000 in
set_option maxHeartbeats 2000000 in
theorem rPutSig_kind (g : Sg) (o : Nat) (hk : isKind o = false) (A1 A2 : Option Addr) (d1 d2 : Nat) (w : World) :
    Calls Tryd.prog 47 #[.agg (sigCells g.i g.r (.slice A1 g.ots.length d1) (.slice A2 g.auth.length d2)).toArray, .int .u32 o] w fun e w' => e = .returned (.tuple #[.slice none 0 0, .int .i64 80]) ∧ Below w.heap.size w w' := by
  have B1 : Below w.heap.size w (w.alloc (.cells (sigCells g.i g.r (.slice A1 g.ots.length d1) (.slice A2 g.auth.length d2)).toArray 76)) := (Below.refl _ _).alloc (Nat.le_refl _) _
  go_enter Tryd.func47, Tryd.ntmps47
  go_wp2_with fail
  generalize w.alloc (.cells (sigCells g.i g.r (.slice A1 g.ots.length d1) (.slice A2 g.auth.length d2)).toArray 76) = W0 at *
  refine (rHeight_any o W0).mono ?_
  rintro e w' ⟨rfl, rfl⟩
  rw [hk]
  go_wp2
  go_ret2
  exact ⟨rfl, B1⟩
set_option maxRecDepth 100000 in
set_option maxHeartbeats 2000000 in
theorem mPutSig_kind (g : Sg) (o : Nat) (hk : isKind o = false) (A1 A2 : Option Addr) (d1 d2 : Nat) (w : World) :
    Calls Tryd.prog 43 #[.agg (sigCells g.i g.r (.slice A1 g.ots.length d1) (.slice A2 g.auth.length d2)).toArray, .int .u32 o] w fun e w' => e = .returned (.tuple #[.slice none 0 0, .int .i64 80]) ∧ Below w.heap.size w w' := by
  have B1 : Below w.heap.size w (w.alloc (.cells (sigCells g.i g.r (.slice A1 g.ots.length d1) (.slice A2 g.auth.length d2)).toArray 76)) := (Below.refl _ _).alloc (Nat.le_refl _) _
  go_enter Tryd.func43, Tryd.ntmps43
  go_wp2_with fail
  generalize w.alloc (.cells (sigCells g.i g.r (.slice A1 g.ots.length d1) (.slice A2 g.auth.length d2)).toArray 76) = W0 at *
  refine (mHeight_any o W0).mono ?_
  rintro e w' ⟨rfl, rfl⟩
  rw [hk]
  go_wp2
  go_ret2
  exact ⟨rfl, B1⟩
set_option maxRecDepth 100000 in
set_option maxHeartbeats 2000000 in
theorem mPutSig_no (g : Sg) (ok : g.ok) (o : Nat) (hk : isKind o = true) (hm : may g.ots.length g.auth.length g.i (hgt o) = false) (A1 A2 : Option Addr) (d1 d2 : Nat) (w : World) :
    Calls Tryd.prog 43 #[.agg (sigCells g.i g.r (.slice A1 g.ots.length d1) (.slice A2 g.auth.length d2)).toArray, .int .u32 o] w fun e w' => e = .returned (.tuple #[.slice none 0 0, .int .i64 81]) ∧ Below w.heap.size w w' := by
  have hh : hgt o ≤ 20 := by unfold hgt; split <;> (try split) <;> (try split) <;> omega
  have hb := Blk.new w 76 (sigCells g.i g.r (.slice A1 g.ots.length d1) (.slice A2 g.auth.length d2)).toArray
  have B1 : Below w.heap.size w (w.alloc (.cells (sigCells g.i g.r (.slice A1 g.ots.length d1) (.slice A2 g.auth.length d2)).toArray 76)) := (Below.refl _ _).alloc (Nat.le_refl _) _
  have HM := Lib.hid hm
  have hv35 : Hid ((sigCells g.i g.r (.slice A1 g.ots.length d1) (.slice A2 g.auth.length d2)).toArray.size = 35) := Lib.hid (sg35 _ _ _ _ ok.r)
  have hb36 := fun W => run_sig36 g.i g.r (.slice A1 g.ots.length d1) (.slice A2 g.auth.length d2) (hgt o) W ok.r
  clear hm
  go_enter Tryd.func43, Tryd.ntmps43
  go_wp2_with fail
  generalize w.alloc (.cells (sigCells g.i g.r (.slice A1 g.ots.length d1) (.slice A2 g.auth.length d2)).toArray 76) = W0 at *
  refine (mHeight_any o W0).mono ?_
  rintro e w' ⟨rfl, rfl⟩
  rw [hk]
  go_wp2_with (first
    | ((with_reducible refine at_load 76 ?_); refine wpList_loadAll W0 rfl 76 _ rfl w.heap.size 76 _ hb _ rfl Tryd.underlying76 rfl (by rw [hv35.out]; exact inf35) ?_)
    | ((with_reducible refine at_build 116 ?_); refine wpList_buildV W0 rfl #[(0, .agg (sigCells g.i g.r (.slice A1 g.ots.length d1) (.slice A2 g.auth.length d2)).toArray), (1, .int .i64 (hgt o : Nat))] rfl ?_ (hb36 W0) ?_; (simp [Act.eval]))
    | fail)
  refine (may_any g.i g.r ok.r A1 A2 g.ots.length d1 g.auth.length d2 (hgt o) ok.i hh W0).mono ?_
  rintro e W1 ⟨rfl, hB1⟩
  rw [HM.out]
  go_wp2
  go_ret2
  exact ⟨rfl, B1.trans (hB1.mono B1.size)⟩

set_option maxRecDepth 100000 in
set_option maxHeartbeats 4000000 in
theorem rPutSig_yes (g : Sg) (ok : g.ok) (o : Nat) (hk : isKind o = true) (hm : may g.ots.length g.auth.length g.i (hgt o) = true) (A1 A2 : Option Addr) (d1 d2 : Nat) (w : World)
    (r1 : Rd w w.heap.size 32 A1 g.ots.length (ncells g.ots)) (r2 : Rd w w.heap.size 32 A2 g.auth.length (ncells g.auth)) :
    Calls Tryd.prog 47 #[.agg (sigCells g.i g.r (.slice A1 g.ots.length d1) (.slice A2 g.auth.length d2)).toArray, .int .u32 o] w (BytesErr w (sigBytes g) 0) := by
  have hh : hgt o ≤ 20 := by unfold hgt; split <;> (try split) <;> (try split) <;> omega
  have hb := Blk.new w 76 (sigCells g.i g.r (.slice A1 g.ots.length d1) (.slice A2 g.auth.length d2)).toArray
  have B1 : Below w.heap.size w (w.alloc (.cells (sigCells g.i g.r (.slice A1 g.ots.length d1) (.slice A2 g.auth.length d2)).toArray 76)) := (Below.refl _ _).alloc (Nat.le_refl _) _
  have hw := shl_one32 (hgt o) hh
  obtain ⟨p2, hp2⟩ : ∃ p2, p2 = 2 ^ hgt o := ⟨_, rfl⟩
  rw [← hp2] at hw
  obtain ⟨x0, x1, x2⟩ := sig_cell35 ok.r hb
  simp only [may, ← hp2, Bool.and_eq_true, beq_iff_eq, decide_eq_true_eq] at hm
  obtain ⟨⟨n67, nh⟩, hi⟩ := hm
  have hi' : ¬ p2 ≤ g.i := by omega
  have N67 := Lib.hid n67
  have NH := Lib.hid nh
  clear hp2 n67 nh
  go_enter Tryd.func47, Tryd.ntmps47
  go_wp2_with fail
  generalize w.alloc (.cells (sigCells g.i g.r (.slice A1 g.ots.length d1) (.slice A2 g.auth.length d2)).toArray 76) = W0 at *
  refine (rHeight_any o W0).mono ?_
  rintro e w' ⟨rfl, rfl⟩
  rw [hk]
  go_wp2_with fail
  have n67 := N67.out
  have nh := NH.out
  go_quiet (fail)
  have B1 := below_drewN B1 nq
  have hb := hb.drewN nq
  clear n67 nh hi hi' hw x0 x1 x2
  generalize W0.drewN nq = W1 at *
  have hR := (sig_root hb.drew)
  have hsz1 := hb.lt
  have HR : Hid (∀ W, Below W1.heap.size W1.drew W → W.rangeAt w.heap.size 1 (bcells g.r)) := Lib.hid fun W hB => hR.later hB hsz1
  have hc0 : Hid (∀ W, Below W1.heap.size W1.drew W → W.cell? ⟨w.heap.size, 0, none⟩ = some (.int .u32 g.i)) := Lib.hid fun W hB => (sig_cell35 ok.r (hb.drew.below hB hsz1)).1
  have hcv : IntKind.u64.wrap (g.i : Int) = (g.i : Int) := IntWalk.u64_in _ (by have := ok.i; omega)
  clear hR
  go_wp2_with fail
  refine Flow.wp_region_flow (W1.heap.size) [(6, fun b => W1.heap.size ≤ b)] [] (by kernel_rfl) (by kernel_rfl) (Nat.le_refl _) (Flow.nz_cons (fun _ h => h) Flow.nz_nil) Flow.facts_nil ?_
  apply Flow.pass_val (hm := (Flow.met_none rfl))
  · intro a W hH
    have e0 := Flow.see_old 2 hH.sees (by kernel_rfl) (by kernel_rfl) rfl
    go_simp; first | done | rfl
  refine Flow.pass_val (.int .u32 (g.i : Nat)) (Flow.met_none rfl) (fun a W hH => ?_) ?_
  · have e0 := Flow.see_new 38 0 hH.sees (by kernel_rfl) (by kernel_rfl) rfl rfl
    have cc := hc0.out W hH.below; go_simp
  refine Flow.pass_val (.int .u64 (g.i : Nat)) (Flow.met_none rfl) (fun a W hH => ?_) ?_
  · have e0 := Flow.see_new 39 1 hH.sees (by kernel_rfl) (by kernel_rfl) rfl rfl
    go_simp
  refine Flow.pass_lin [6] (fun v W => ∃ A c, v = .slice A (0 + 4) c ∧ W.ownsRow W1.heap.size 5 1 (.slice A (0 + 4) c) (0 + 4) (bcells ([] ++ putNum g.i 4 false))) (Flow.kept_lin [6] (fun _ _ _ c ⟨A, k, h1, h2⟩ => ⟨A, k, h1, own_chg h2 c (fun _ _ => id)⟩) (Flow.lz_cons (fun _ => .inl rfl) Flow.lz_nil)) (Flow.met_none rfl) (fun a W hH => ?_) ?_
  · have e0 := Flow.see_new 40 2 hH.sees (by kernel_rfl) (by kernel_rfl) rfl rfl
    refine Flow.wp_callZ rfl Tryd.func78 rfl (by kernel_rfl) (by simp [Act.eval, e0]) (rput_any none 0 0 false [] W g.i 4 (Rd.nil _ _ _ _) (by omega) (by omega)) ?_
    rintro e w2 ⟨A9, c9, rfl, hO, hB⟩
    exact ⟨_, rfl, Chg.of_ext hB, A9, c9, rfl, own_base hO hH.below.size⟩
  apply Flow.pass_val (hm := (Flow.met_none rfl))
  · intro a W hH
    have e0 := Flow.see_old 2 hH.sees (by kernel_rfl) (by kernel_rfl) rfl
    go_simp; first | done | rfl
  apply Flow.pass_val (hm := (Flow.met_none rfl))
  · intro a W hH
    have e0 := Flow.see_new 42 4 hH.sees (by kernel_rfl) (by kernel_rfl) rfl rfl
    go_simp; first | done | rfl
  refine Flow.pass_list (fun v W => ∃ A c, v = .slice A (0 + 4 + 32) c ∧ W.ownsRow W1.heap.size 5 1 (.slice A (0 + 4 + 32) c) (0 + 4 + 32) (bcells ([] ++ putNum g.i 4 false ++ g.r))) (Flow.kept_of (fun _ _ _ c ⟨A, k, h1, h2⟩ => ⟨A, k, h1, own_chg h2 c (fun _ _ => id)⟩) (Flow.kz_cons (Flow.no_follow (by kernel_rfl)) Flow.kz_nil)) (Flow.met_none rfl) (fun a W hH => ?_) ?_
  · obtain ⟨A0, c0, e0, q0⟩ := Flow.see_lin 41 3 hH.sees (by kernel_rfl) (by kernel_rfl) rfl rfl (by kernel_rfl)
    have e1 := Flow.see_new 43 5 hH.sees (by kernel_rfl) (by kernel_rfl) rfl rfl
    refine wpList_app W el8 rfl _ _ rfl W1.heap.size A0 (0 + 4) c0 _ (by simpa [Act.eval] using e0) q0 W.heap.size (some ⟨w.heap.size, 1, none⟩) 32 32 _ (by simpa [Act.eval] using e1) ?_ (bcells_one g.r) (by omega) (by omega) hH.below.size ?_
    · exact ⟨by simp [bcells_length, ok.r], fun j v hv => ⟨_, rfl, Nat.lt_of_lt_of_le hsz1 hH.below.size, by rw [Addr.add_mid]; exact HR.out W hH.below j v hv⟩⟩
    intro A' c' W2 hO2 hg hB _
    exact Flow.qq_nil ⟨_, rfl, Chg.of_below hB (fun k hk _ => hk), A', c', rfl, by rw [bcells_append]; exact hO2⟩
  refine Flow.pass_copy 44 6 (Flow.met_none rfl) (.inr rfl) (by kernel_rfl) (by kernel_rfl) rfl rfl (Flow.kept_of (fun _ _ _ c ⟨A, k, h1, h2⟩ => ⟨A, k, h1, own_chg h2 c (fun _ _ => id)⟩) (Flow.kz_cons (Flow.no_follow (by kernel_rfl)) Flow.kz_nil)) ?_
  refine Flow.pass_end [none, none, none, none, none, none, none, none, some 8, none, none, none, none, none, none, none, none, none, none, none, none, none, none, none, none, none, none, none, none, none, none, none, none, none, none, none, none, none, some 38, some 39, some 40, some 41, some 42, some 43, some 44, none, none, none, none, none, none, none, none, none, none, none, none, none, none, none, none, none, none, none, none, none, none, none] (by kernel_rfl) ?_
  intro f gg w9 hB hfa hT hfg
  obtain ⟨A8, c8, h8, g8⟩ := hT 7 _ (by kernel_rfl) rfl
  rw [← hfg 8 7 (by kernel_rfl)] at h8
  have B9 := B1.trans ((Below.drew (Below.refl W1.heap.size W1)).trans hB |>.mono (Nat.le_of_lt hsz1))
  have hb := hb.below ((Below.drew (Below.refl W1.heap.size W1)).trans hB) hsz1
  obtain ⟨pre, hpre⟩ : ∃ pre : List UInt8, pre = putNum g.i 4 false ++ g.r := ⟨_, rfl⟩
  have hpl : pre.length = 36 := by rw [hpre, List.length_append, putNum_length, ok.r]
  have hP0 : Bt w W1.heap.size pre (.slice A8 (0 + 4 + 32) c8) w9 := ⟨B9, hB.size, A8, c8, by rw [hpl], by rw [hpl, hpre]; exact g8⟩
  have HPL := Lib.hid hpl
  have HPRE := Lib.hid hpre
  simp only [Reg.sel, h8]
  clear hpre hpl g8 hT hfg hfa h8 hc0 hcv HR
  obtain ⟨b1, o1, rfl, hb1, hr1⟩ := r1.range (by have := N67.out; omega)
  have hcell := (sig_cell35 ok.r hb).2.1
  go_wp2_with fail
  clear hcell hB B9
  go_loopw [8, 48] (fun v i wr => ∃ k : Nat, k ≤ 67 ∧ i = .int .i64 k ∧ Bt w W1.heap.size (pre ++ (g.ots.take k).flatten) v wr ∧ Blk wr w.heap.size 76 (sigCells g.i g.r (.slice (some ⟨b1, o1, none⟩) g.ots.length d1) (.slice A2 g.auth.length d2)).toArray) (fun _ i _ => 67 - (intOf i).toNat)
  case atStart => exact ⟨0, by omega, rfl, by simpa using hP0, hb⟩
  case round =>
    obtain ⟨k, hk67, rfl, hP, hb⟩ := hrel
    by_cases hlt : k < 67
    · have hk2 : k < g.ots.length := by have := N67.out; omega
      have HBS := Lib.hid (take_flatten g.ots k hk2)
      have hnd := (range_node hr1 ok.ots k hk2).later hP.1 hb1
      have ndL : Hid (g.ots[k].length = 32) := Lib.hid (ok.ots _ (List.getElem_mem hk2))
      have HLEN : Hid ((pre ++ (g.ots.take k).flatten).length + 32 ≤ 100000000) := Lib.hid (by
        rw [List.length_append, HPL.out, flatten_length _ fun x hx => ok.ots x (List.mem_of_mem_take hx), List.length_take]; omega)
      generalize g.ots[k] = nd at *
      have hlnd : Hid ((bcells nd).length = 32) := Lib.hid (by rw [bcells_length]; exact ndL.out)
      have hnb := Blk.new wr 24 (bcells zeroNode0).toArray
      have hwr := hb.lt
      have hz32 : Hid ((bcells zeroNode0).toArray.size = 32) := Lib.hid rfl
      go_wp2_with (first
        | ((with_reducible refine at_load 24 ?_); refine wpList_load_mid rfl 24 _ rfl b1 (o1 + k * 32) rfl (bcells nd) _ hnd Tryd.underlying24 rfl (by rw [hlnd.out]; exact infNode) ?_)
        | ((with_reducible refine at_store 24 ?_); refine wpList_storeAll _ rfl 24 _ _ rfl wr.heap.size 24 _ (bcells nd).toArray hnb rfl rfl (by rw [List.size_toArray, hlnd.out]; rfl) (by rw [List.size_toArray, hlnd.out]; exact infNode) (by simpa using bcells_one nd) ?_; intro W3 hb3 hg3 hs3;
            have hC3 := (Chg.of_ext (Z := fun b => b = wr.heap.size) ((Ext.refl wr).alloc (.cells (bcells zeroNode0).toArray 24))).trans (Chg.grown hg3 (by rintro k h; cases h; rfl)); have hP3 := hP.chg hC3; have hsg3 := hb.chg hC3 (by show ¬ _ = _; omega); clear hs3)
        | ((with_reducible refine at_append ?_); refine wpList_bt W3 rfl _ _ rfl w W1.heap.size (pre ++ (g.ots.take k).flatten) _ (Nat.le_of_lt hsz1) hP3 rfl W3.heap.size (some ⟨wr.heap.size, 0, none⟩) 32 32 nd rfl (hb3.rd (size := 1) (n := 32) (by rw [List.size_toArray, hlnd.out])) HLEN.out ?_; intro v' W5 hP5 hB5)
        | fail)
      have hb5 := hsg3.below hB5 hsz1
      rw [List.append_assoc, ← HBS.out] at hP5
      clear hP hb hB5 hP3 hsg3 hC3 hg3 hb3 hnb hnd
      go_roundw
      case rel => exact ⟨k + 1, by omega, by go_num, hP5, hb5⟩
      case measure => simp [intOf]; omega
    · obtain rfl : k = 67 := by omega
      have hlg : ¬ (67 : Int) < (g.ots.length : Nat) := by have := N67.out; omega
      rw [List.take_of_length_le (by have := N67.out; omega)] at hP
      have hcell2 := (sig_cell35 ok.r hb).2.2
      obtain ⟨b2, o2, rfl, hb2, hr2⟩ : ∃ b2 o2, A2 = some ⟨b2, o2, none⟩ ∧ b2 < w.heap.size ∧ w.rangeAt b2 o2 (ncells g.auth) := by
        refine r2.range ?_
        have := NH.out
        have : 10 ≤ hgt o := by
          simp only [isKind, Bool.or_eq_true, beq_iff_eq] at hk
          rcases hk with (rfl | rfl) | rfl <;> decide
        omega
      obtain ⟨pre2, hpre2⟩ : ∃ pre2, pre2 = pre ++ g.ots.flatten := ⟨_, rfl⟩
      rw [← hpre2] at hP
      have HPL2 : Hid (pre2.length = 2180) := Lib.hid (by rw [hpre2, List.length_append, HPL.out, flatten_length _ ok.ots]; have := N67.out; omega)
      have HPRE2 := Lib.hid hpre2
      clear hpre2
      go_wp2_with fail
      clear hcell2
      go_loopw [8, 59] (fun v i wr => ∃ k : Nat, k ≤ g.auth.length ∧ i = .int .i64 k ∧ Bt w W1.heap.size (pre2 ++ (g.auth.take k).flatten) v wr ∧ Blk wr w.heap.size 76 (sigCells g.i g.r (.slice (some ⟨b1, o1, none⟩) g.ots.length d1) (.slice (some ⟨b2, o2, none⟩) g.auth.length d2)).toArray) (fun _ i _ => g.auth.length - (intOf i).toNat)
      case atStart => exact ⟨0, by omega, rfl, by simpa using hP, hb⟩
      case round =>
        obtain ⟨k, hka, rfl, hP, hb⟩ := hrel
        by_cases hlt : k < g.auth.length
        · have HLT := Lib.hid hlt
          have hkb : k ≤ 100 := by have := NH.out; omega
          have HBS := Lib.hid (take_flatten g.auth k hlt)
          have hnd := (range_node hr2 ok.auth k hlt).later hP.1 hb2
          have ndL : Hid (g.auth[k].length = 32) := Lib.hid (ok.auth _ (List.getElem_mem hlt))
          have HLEN : Hid ((pre2 ++ (g.auth.take k).flatten).length + 32 ≤ 100000000) := Lib.hid (by
            rw [List.length_append, HPL2.out, flatten_length _ fun x hx => ok.auth x (List.mem_of_mem_take hx), List.length_take]; omega)
          generalize g.auth[k] = nd at *
          have hlnd : Hid ((bcells nd).length = 32) := Lib.hid (by rw [bcells_length]; exact ndL.out)
          have hnb := Blk.new wr 24 (bcells zeroNode0).toArray
          have hwr := hb.lt
          have hz32 : Hid ((bcells zeroNode0).toArray.size = 32) := Lib.hid rfl
          go_wp2_with (first
            | ((with_reducible refine at_load 24 ?_); refine wpList_load_mid rfl 24 _ rfl b2 (o2 + k * 32) rfl (bcells nd) _ hnd Tryd.underlying24 rfl (by rw [hlnd.out]; exact infNode) ?_)
            | ((with_reducible refine at_store 24 ?_); refine wpList_storeAll _ rfl 24 _ _ rfl wr.heap.size 24 _ (bcells nd).toArray hnb rfl rfl (by rw [List.size_toArray, hlnd.out]; rfl) (by rw [List.size_toArray, hlnd.out]; exact infNode) (by simpa using bcells_one nd) ?_; intro W3 hb3 hg3 hs3;
                have hC3 := (Chg.of_ext (Z := fun b => b = wr.heap.size) ((Ext.refl wr).alloc (.cells (bcells zeroNode0).toArray 24))).trans (Chg.grown hg3 (by rintro k h; cases h; rfl)); have hP3 := hP.chg hC3; have hsg3 := hb.chg hC3 (by show ¬ _ = _; omega); clear hs3)
            | ((with_reducible refine at_append ?_); refine wpList_bt W3 rfl _ _ rfl w W1.heap.size (pre2 ++ (g.auth.take k).flatten) _ (Nat.le_of_lt hsz1) hP3 rfl W3.heap.size (some ⟨wr.heap.size, 0, none⟩) 32 32 nd rfl (hb3.rd (size := 1) (n := 32) (by rw [List.size_toArray, hlnd.out])) HLEN.out ?_; intro v' W5 hP5 hB5)
            | fail)
          have hb5 := hsg3.below hB5 hsz1
          rw [List.append_assoc, ← HBS.out] at hP5
          clear hP hb hB5 hP3 hsg3 hC3 hg3 hb3 hnb hnd
          go_roundw
          case rel => exact ⟨k + 1, by have := HLT.out; omega, by go_num, hP5, hb5⟩
          case measure => simp [intOf]; have := HLT.out; omega
        · obtain rfl : k = g.auth.length := by omega
          rw [List.take_of_length_le (Nat.le_refl _)] at hP
          have es : pre2 ++ g.auth.flatten = sigBytes g := by rw [HPRE2.out, HPRE.out]; simp [sigBytes]
          rw [es] at hP
          obtain ⟨BW, hBW, A, c, rfl, hO⟩ := hP
          have hlsb : Hid (List.length (sigBytes g) = List.length (sigBytes g)) := Lib.hid rfl
          generalize hSB : sigBytes g = SB at *
          go_wp2
          go_ret2
          exact ⟨A, c, rfl, Flow.own_le hO, Rd.of_own hO, BW⟩
end Go.Proofs.YtgfdjfglfipjfaaDoor
/-
  Plain numbers: what is put is read.
-/
namespace Go.Proofs.YtgfdjfglfipjfaaDoor

theorem numOf_digits (x n : Nat) : ∀ j, j ≤ n → numOf (fun k => x / 256 ^ (n - 1 - k) % 256) j = x / 256 ^ (n - j) % 256 ^ j
  | 0, _ => by simp [numOf, Nat.mod_one]
  | j + 1, h => by
    have ih := numOf_digits x n j (by omega)
    simp only [numOf]
    rw [ih]
    have e1 : x / 256 ^ (n - j) = x / 256 ^ (n - (j + 1)) / 256 := by
      rw [Nat.div_div_eq_div_mul, ← Nat.pow_succ]
      congr 2; omega
    have e2 : n - 1 - j = n - (j + 1) := by omega
    rw [e1, e2, Nat.pow_succ, Nat.mul_comm (256 ^ j) 256, Nat.mod_mul]
    omega
/-- what is put is read -/
theorem read_put (l : List UInt8) (x n : Nat) (low : Bool) (hx : x < 256 ^ n) : rdNum (l ++ putNum x n low) l.length n low = x := by
  have hin : (0 : Int) ≤ (l.length : Int) ∧ (l.length : Int) + n ≤ (l ++ putNum x n low).length := by
    rw [List.length_append, putNum_length]; omega
  rw [rdNum, if_pos hin]
  have : readNum (l ++ putNum x n low) l.length n low = numOf (fun k => x / 256 ^ (n - 1 - k) % 256) n := by
    unfold readNum
    apply numOf_congr
    intro j hj
    have hput : ∀ i, i < n → (l ++ putNum x n low)[l.length + i]?.getD 0 = putByte x n low i := by
      intro i hi
      rw [List.getElem?_append_right (by omega), Nat.add_sub_cancel_left]
      simp [putNum, hi]
    unfold byteAt
    cases low
    · simp only [Bool.false_eq_true, if_false]
      rw [hput j hj]
      simp [putByte, UInt8.toNat_ofNat']
    · simp only [if_true]
      rw [show l.length + n - 1 - j = l.length + (n - 1 - j) by omega, hput _ (by omega)]
      simp [putByte, UInt8.toNat_ofNat']
  rw [Int.toNat_natCast, this, numOf_digits x n n (Nat.le_refl _)]
  simp [Nat.mod_eq_of_lt hx]
theorem rdOk_put (l : List UInt8) (x n : Nat) (low : Bool) : rdOk (l ++ putNum x n low) l.length n = true := by
  rw [rdOk, decide_eq_true]
  rw [List.length_append, putNum_length]; omega
end Go.Proofs.YtgfdjfglfipjfaaDoor
/-
  Both PutSig of any signature; what is put is read; walk of the statement XmssPuts.
-/
namespace Go.Proofs.YtgfdjfglfipjfaaDoor
open Go.RowKit

def putSigVal (g : Sg) (o : Nat) : List UInt8 := if putOk g o then sigBytes g else []
def putSigErr (g : Sg) (o : Nat) : Int := if isKind o = false then 80 else if putOk g o then 0 else 81
theorem bytesErr_none {w w' : World} {x : Int} {e : Ending} (he : e = .returned (.tuple #[.slice none 0 0, .int .i64 x])) (hB : Below w.heap.size w w') : BytesErr w [] x e w' := ⟨none, 0, he, Nat.le_refl _, Rd.nil _ _ _ _, hB⟩
section
variable (g : Sg) (ok : g.ok) (o : Nat) (A1 A2 : Option Addr) (d1 d2 : Nat) (w : World) (r1 : Rd w w.heap.size 32 A1 g.ots.length (ncells g.ots)) (r2 : Rd w w.heap.size 32 A2 g.auth.length (ncells g.auth))
include ok r1 r2
theorem mPutSig_any : Calls Tryd.prog 43 #[.agg (sigCells g.i g.r (.slice A1 g.ots.length d1) (.slice A2 g.auth.length d2)).toArray, .int .u32 o] w (BytesErr w (putSigVal g o) (putSigErr g o)) := by
  cases hk : isKind o with
  | false =>
    rw [putSigVal, putSigErr, putOk, hk]
    exact (mPutSig_kind g o hk A1 A2 d1 d2 w).mono fun e w' ⟨he, hB⟩ => bytesErr_none he hB
  | true =>
    cases hm : may g.ots.length g.auth.length g.i (hgt o) with
    | false =>
      rw [putSigVal, putSigErr, putOk, hk, hm]
      exact (mPutSig_no g ok o hk hm A1 A2 d1 d2 w).mono fun e w' ⟨he, hB⟩ => bytesErr_none he hB
    | true =>
      rw [putSigVal, putSigErr, putOk, hk, hm]
      exact mPutSig_yes g ok o hk hm A1 A2 d1 d2 w r1 r2
theorem rPutSig_any : Calls Tryd.prog 47 #[.agg (sigCells g.i g.r (.slice A1 g.ots.length d1) (.slice A2 g.auth.length d2)).toArray, .int .u32 o] w (BytesErr w (putSigVal g o) (putSigErr g o)) := by
  cases hk : isKind o with
  | false =>
    rw [putSigVal, putSigErr, putOk, hk]
    exact (rPutSig_kind g o hk A1 A2 d1 d2 w).mono fun e w' ⟨he, hB⟩ => bytesErr_none he hB
  | true =>
    cases hm : may g.ots.length g.auth.length g.i (hgt o) with
    | false =>
      rw [putSigVal, putSigErr, putOk, hk, hm]
      exact (rPutSig_no g ok o hk hm A1 A2 d1 d2 w).mono fun e w' ⟨he, hB⟩ => bytesErr_none he hB
    | true =>
      rw [putSigVal, putSigErr, putOk, hk, hm]
      exact rPutSig_yes g ok o hk hm A1 A2 d1 d2 w r1 r2
end

/-! what is put is read -/
theorem rdNum_front (a b : List UInt8) (n : Nat) (low : Bool) (h : n ≤ a.length) : rdNum (a ++ b) 0 n low = rdNum a 0 n low := by
  have h1 : (0 : Int) ≤ 0 ∧ (0 : Int) + n ≤ (a ++ b).length := by rw [List.length_append]; omega
  have h2 : (0 : Int) ≤ 0 ∧ (0 : Int) + n ≤ a.length := by omega
  rw [rdNum, rdNum, if_pos h1, if_pos h2]
  unfold readNum
  apply numOf_congr
  intro j hj
  unfold byteAt
  rw [List.getElem?_append_left (by split <;> simp <;> omega)]
theorem rdNum_put (x n : Nat) (low : Bool) (hx : x < 256 ^ n) : rdNum (putNum x n low) 0 n low = x := by
  have := read_put [] x n low hx
  simpa using this
theorem flatten_get (ns : List (List UInt8)) (h : ∀ x ∈ ns, x.length = 32) (b : List UInt8) (k : Nat) (hk : k < ns.length) : ((ns.flatten ++ b).drop (32 * k)).take 32 = ns[k] := by
  have e : ns = ns.take k ++ (ns[k] :: ns.drop (k + 1)) := by rw [← List.drop_eq_getElem_cons hk, List.take_append_drop]
  have e2 : ns.flatten = (ns.take k).flatten ++ (ns[k] ++ (ns.drop (k + 1)).flatten) := by
    conv => lhs; rw [e]
    rw [List.flatten_append, List.flatten_cons]
  have hl : (ns.take k).flatten.length = 32 * k := by
    rw [flatten_length _ fun x hx => h x (List.mem_of_mem_take hx), List.length_take, Nat.min_eq_left (by omega)]
  rw [e2, List.append_assoc, List.drop_left' hl, List.append_assoc, List.take_left' (h _ (List.getElem_mem hk))]
theorem nodesAt_eq (l a b : List UInt8) (p : Nat) (ns : List (List UInt8)) (h : ∀ x ∈ ns, x.length = 32) (hl : l = a ++ (ns.flatten ++ b)) (ha : a.length = 36 + 32 * p) : nodesAt l p ns.length = ns := by
  apply List.ext_getElem
  · simp [nodesAt]
  · intro k h1 h2
    simp only [nodesAt, List.getElem_map, List.getElem_range]
    have := flatten_get ns h b k h2
    rw [nodeAt, hl, show 36 + 32 * (p + k) = a.length + 32 * k by omega, ← List.drop_drop, List.drop_left]
    exact this
theorem sig_back (g : Sg) (ok : g.ok) (o : Nat) (h : putOk g o = true) : sigVal (sigBytes g) o = g ∧ sigErr (sigBytes g) o = 0 := by
  simp only [putOk, may, Bool.and_eq_true, beq_iff_eq, decide_eq_true_eq] at h
  obtain ⟨hk, ⟨n67, nh⟩, hi⟩ := h
  have h1 : rdNum (sigBytes g) 0 4 false = g.i := by
    rw [sigBytes, rdNum_front _ _ _ _ (by rw [putNum_length]; omega), rdNum_put _ _ _ (by have := ok.i; omega)]
  have hlen : (sigBytes g).length = 36 + 32 * (67 + hgt o) := by
    rw [sigBytes]
    simp only [List.length_append, putNum_length, flatten_length _ ok.ots, flatten_length _ ok.auth, ok.r, n67, nh]; omega
  have hok : sigOk (sigBytes g) o = true := by simp [sigOk, hk, hlen, h1, hi]
  refine ⟨?_, by rw [sigErr, hk, hok]; rfl⟩
  rw [sigVal, if_pos hok, h1]
  have e2 : ((sigBytes g).drop 4).take 32 = g.r := by
    rw [sigBytes, List.drop_left' (putNum_length _ _ _), List.take_left' ok.r]
  have e3 : nodesAt (sigBytes g) 0 67 = g.ots := by
    have := nodesAt_eq (sigBytes g) (putNum g.i 4 false ++ g.r) g.auth.flatten 0 g.ots ok.ots (by simp [sigBytes]) (by rw [List.length_append, putNum_length, ok.r])
    rwa [n67] at this
  have e4 : nodesAt (sigBytes g) 67 (hgt o) = g.auth := by
    have := nodesAt_eq (sigBytes g) (putNum g.i 4 false ++ (g.r ++ g.ots.flatten)) [] 67 g.auth ok.auth (by simp [sigBytes]) (by simp only [List.length_append, putNum_length, ok.r, flatten_length _ ok.ots, n67])
    rwa [nh] at this
  rw [e2, e3, e4]

end Go.Proofs.YtgfdjfglfipjfaaDoor
