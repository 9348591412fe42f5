/-
  Parts: XmssA XmssB XmssC XmssD XmssE XmssF EqS XmssG XmssH SigA SigB SigC SigD SigE SigF SigG SigH Num2 SigI.
-/
import Derived.Test.YtipdmhppadapkaaGreatDoorBB
import Derived.Test.YtipdmhppadapkaaGreatDoorBA
import Derived.DeepKeys
import Derived.Deep.Cut
/-
  Walks: heights and sizes of kinds (xmss.Height, xmss.Size, portreeveref04.Height); portreevelaw08.awake; the statement XmssKinds.
-/
namespace Go.Proofs.YtipdmhppadapkaaGreatDoor
open Go.RowKit

def hgt (o : Nat) : Nat := if o = 1 then 10 else if o = 2 then 16 else if o = 3 then 20 else 0
def isKind (o : Nat) : Bool := o == 1 || o == 2 || o == 3
def sigSize (o : Nat) : Nat := if isKind o then 36 + 32 * (67 + hgt o) else 0

theorem mHeight_any (o : Nat) (w : World) : Calls Tryz.prog 112 #[.int .u32 (o : Nat)] w fun e w' => e = .returned (.tuple #[.int .i64 (hgt o : Nat), .bool (isKind o)]) ∧ w = w' := by
  go_enter Tryz.func112, Tryz.ntmps112
  by_cases h1 : o = 1
  · subst h1
    go_wp2
    go_ret2
    exact ⟨rfl, rfl⟩
  by_cases h2 : o = 2
  · subst h2
    go_wp2
    go_ret2
    exact ⟨rfl, rfl⟩
  by_cases h3 : o = 3
  · subst h3
    go_wp2
    go_ret2
    exact ⟨rfl, rfl⟩
  have k1 : (((o : Nat) : Int) == 1) = false := by simp; omega
  have k2 : (((o : Nat) : Int) == 2) = false := by simp; omega
  have k3 : (((o : Nat) : Int) == 3) = false := by simp; omega
  have e1 : hgt o = 0 := by simp [hgt, h1, h2, h3]
  have e2 : isKind o = false := by simp [isKind, h1, h2, h3]
  rw [e1, e2]
  clear h1 h2 h3 e1 e2
  go_wp2
  go_ret2
  exact ⟨rfl, rfl⟩

theorem rHeight_any (o : Nat) (w : World) : Calls Tryz.prog 42 #[.int .u32 (o : Nat)] w fun e w' => e = .returned (.tuple #[.int .i64 (hgt o : Nat), .bool (isKind o)]) ∧ w = w' := by
  go_enter Tryz.func42, Tryz.ntmps42
  by_cases h1 : o = 1
  · subst h1
    go_wp2
    go_ret2
    exact ⟨rfl, rfl⟩
  by_cases h2 : o = 2
  · subst h2
    go_wp2
    go_ret2
    exact ⟨rfl, rfl⟩
  by_cases h3 : o = 3
  · subst h3
    go_wp2
    go_ret2
    exact ⟨rfl, rfl⟩
  have k1 : (((o : Nat) : Int) == 1) = false := by simp; omega
  have k2 : (((o : Nat) : Int) == 2) = false := by simp; omega
  have k3 : (((o : Nat) : Int) == 3) = false := by simp; omega
  have e1 : hgt o = 0 := by simp [hgt, h1, h2, h3]
  have e2 : isKind o = false := by simp [isKind, h1, h2, h3]
  rw [e1, e2]
  clear h1 h2 h3 e1 e2
  go_wp2
  go_ret2
  exact ⟨rfl, rfl⟩

theorem mSize_any (o : Nat) (w : World) : Calls Tryz.prog 108 #[.int .u32 (o : Nat)] w fun e w' => e = .returned (.tuple #[.int .i64 (sigSize o : Nat), .bool (isKind o)]) ∧ w = w' := by
  go_enter Tryz.func108, Tryz.ntmps108
  have hh : hgt o ≤ 20 := by unfold hgt; split <;> (try split) <;> (try split) <;> omega
  go_wp2_with fail
  refine (mHeight_any o w).mono ?_
  rintro e w' ⟨rfl, rfl⟩
  cases hk : isKind o with
  | false =>
    have hz : sigSize o = 0 := by simp [sigSize, hk]
    go_wp2
    go_ret2
    exact ⟨by rw [hk]; exact congrArg (fun x : Int => Ending.returned (.tuple #[.int .i64 x, .bool false])) (show (0 : Int) = (sigSize o : Nat) by rw [hz]; rfl), rfl⟩
  | true =>
    have hz : sigSize o = 36 + 32 * (67 + hgt o) := by simp [sigSize, hk]
    go_wp2
    go_ret2
    exact ⟨by rw [hk]; exact congrArg (fun x : Int => Ending.returned (.tuple #[.int .i64 x, .bool true])) (show (4 : Int) + 32 * (68 + (hgt o : Nat)) = (sigSize o : Nat) by rw [hz]; omega), rfl⟩

end Go.Proofs.YtipdmhppadapkaaGreatDoor
/-
  Walks: xmss.KeyOf of bytes without a kind; portreevelaw08.awake.
-/
namespace Go.Proofs.YtipdmhppadapkaaGreatDoor
open Go.RowKit

theorem keyOne : Tryz.zeroCells97.all (·.oneCell') = true := by kernel_rfl
theorem results_cell_tmp {P : Program} {fn : Func} {p q : Tmp} {ty : TypeId} (h : fn.results = #[.cell p ty, .tmp q]) (tmps : Array Value) (w : World) (g : Nat) (t : TypeId) (cs : Array Value) (fr : Nat × Nat) (d : TypeDesc)
    (hp : tmps.getD p undef = .pointer (some ⟨g, 0, none⟩)) (hg : w.heap[g]? = some (.cells cs t fr))
    (hu : P.underlying ty = some d) (hd : (match d with | .struct _ | .array _ _ => true | _ => false) = true) (hi : (P.info? ty).map (·.size) = some cs.size) :
    (results fn tmps).run P w = .ok (.tuple #[.agg cs, tmps.getD q undef]) w := by
  have hp' : tmps[p]?.getD undef = .pointer (some ⟨g, 0, none⟩) := by simpa using hp
  simp [results, h, hp', asAddr, run_loadVar_row w g t ty cs fr d hg hu hd hi]

set_option maxRecDepth 100000 in
set_option maxHeartbeats 1000000 in
theorem mKeyOf_none (A : Option Addr) (n c : Nat) (l : List UInt8) (w : World) (h : Rd w w.heap.size 1 A n (bcells l)) (hn : n ≤ 1000000) (hk : isKind (rdNum l 0 4 false) = false) :
    Calls Tryz.prog 76 #[.slice A n c] w fun e w' => e = .returned (.tuple #[.agg Tryz.zeroCells97, .int .i64 80]) ∧ Below w.heap.size w w' := by
  go_enter Tryz.func76, Tryz.ntmps76
  go_wp2_with fail
  have B1 : Below w.heap.size w (w.alloc (.cells Tryz.zeroCells97 97)) := (Below.refl _ w).alloc (Nat.le_refl _) _
  have h1 : Rd (w.alloc (.cells Tryz.zeroCells97 97)) (w.alloc (.cells Tryz.zeroCells97 97)).heap.size 1 A n (bcells l) := (h.alloc (Nat.le_refl _) _).more (by simp)
  have hb := Blk.new w 97 Tryz.zeroCells97
  generalize w.alloc (.cells Tryz.zeroCells97 97) = W at *
  refine (be32_any A n c 0 l W h1 (by omega)).mono ?_
  rintro e w' ⟨rfl, rfl⟩
  go_wp2_with fail
  refine (mHeight_any (rdNum l 0 4 false) W).mono ?_
  rintro e w' ⟨rfl, rfl⟩
  rw [hk]
  have hzl : Tryz.zeroCells97.size = 65 := by kernel_rfl
  go_wp2_with ((with_reducible refine at_store 97 ?_); refine wpList_storeAll W rfl 97 _ _ rfl w.heap.size 97 _ Tryz.zeroCells97 hb rfl rfl rfl (by rw [hzl]; kernel_rfl) (fun v hv => Array.all_eq_true_iff_forall_mem.1 keyOne v (by simpa using hv)) ?_; intro w3 hb3 hg3 hs3)
  all_goals
    refine bodyPost_ret (results_cell_tmp rfl _ _ w.heap.size _ _ _ _ rfl hb3 Tryz.underlying97 rfl (by rw [hzl]; kernel_rfl)) rfl ⟨rfl, ?_⟩
    exact grown_below B1 hg3 B1.size (Nat.le_refl _)

end Go.Proofs.YtipdmhppadapkaaGreatDoor
/-
  Walk of the statement XmssKinds.
-/
namespace Go.Proofs.YtipdmhppadapkaaGreatDoor
open Go.RowKit

end Go.Proofs.YtipdmhppadapkaaGreatDoor
/-
  Walks: xmss.cutter and what it hands out; xmss.signed.may.
-/
namespace Go.Proofs.YtipdmhppadapkaaGreatDoor
open Go.RowKit

theorem cutter_any (A : Option Addr) (n c : Nat) (w : World) : Calls Tryz.prog 113 #[.slice A n c] w fun e w' => e = .returned (.func (.func 140) #[] #[.pointer (some ⟨w.heap.size, 0, none⟩)]) ∧ Blk w' w.heap.size 22 #[.slice A n c] ∧ Ext w w' ∧ w'.heap.size = w.heap.size + 1 := by
  have hb := Blk.new w 22 #[.slice A n c]
  go_enter Tryz.func113, Tryz.ntmps113
  go_wp2
  go_ret
  exact ⟨rfl, hb, (Ext.refl w).alloc _, by simp⟩

/-- what a slice is cut to: k bytes less ahead -/
def CutTo (A A' : Option Addr) (n k : Nat) : Prop := ∀ W B xs, Rd W B 1 A n xs → Rd W B 1 A' (n - k) (xs.drop k)
theorem cutTo_cap {A : Option Addr} {n k c : Nat} (hn : n ≤ c) (e : c = k) : CutTo A A n k := fun W B xs h => by
  have := h.cut (k := k) (cap := c) hn
  rw [if_pos e, Nat.mul_one] at this; exact this
theorem cutTo_on {A : Option Addr} {n k c : Nat} (hk : 0 < k) (hn : n ≤ c) (e : ¬ c = k) : CutTo A (A.map fun x => ⟨x.block, x.off + k, none⟩) n k := fun W B xs h => by
  have := h.cut (k := k) (cap := c) hn
  rw [if_neg e, Nat.mul_one] at this
  have e2 : (fun x : Addr => x.add k) = fun x => ⟨x.block, x.off + k, none⟩ := by
    funext x; unfold Addr.add; rw [if_neg (by omega)]
  rw [e2] at this; exact this

theorem grown_set (w : World) (g i : Nat) (v : Value) : w.grownBy (w.setCell ⟨g, i, none⟩ v) (some g) := ⟨rfl, rfl, rfl, by simp, fun k _ hk => heap_setCell_other w ⟨g, i, none⟩ k v (fun e => hk (by simp [e]))⟩
set_option maxRecDepth 100000 in
set_option maxHeartbeats 1000000 in
theorem cut_any (g : Nat) (A : Option Addr) (n c : Nat) (w : World) (h : Blk w g 22 #[.slice A n c]) (hn : 32 ≤ n) (hc : n ≤ c) :
    Calls Tryz.prog 140 #[.int .i64 32, .pointer (some ⟨g, 0, none⟩)] w fun e w' => ∃ A', CutTo A A' n 32 ∧ e = .returned (.slice A 32 c) ∧
      Blk w' g 22 #[.slice A' (n - 32) (c - 32)] ∧ w.grownBy w' (some g) ∧ w'.heap.size = w.heap.size := by
  have fin : ∀ v, Blk (w.setCell ⟨g, 0, none⟩ v) g 22 #[v] ∧ w.grownBy (w.setCell ⟨g, 0, none⟩ v) (some g) ∧ (w.setCell ⟨g, 0, none⟩ v).heap.size = w.heap.size :=
    fun v => ⟨h.set_ 0 v, grown_set w g 0 v, by simp⟩
  have h1 := h.cell 0
  have h2 := h.frozen 0
  by_cases e : c = 32
  · have hC := cutTo_cap (A := A) (n := n) (k := 32) hc e
    obtain rfl : n = 32 := by omega
    subst e
    go_enter Tryz.func140, Tryz.ntmps140
    go_wp2
    go_ret
    exact ⟨_, hC, rfl, fin _⟩
  · have hC := cutTo_on (A := A) (n := n) (k := 32) (by omega) hc e
    go_enter Tryz.func140, Tryz.ntmps140
    go_wp2
    go_ret
    exact ⟨_, hC, rfl, fin _⟩

/-- a signature with its height -/
def sigCells (i : Nat) (r : List UInt8) (v1 v2 : Value) : List Value := .int .u32 i :: (bcells r ++ [v1, v2])
def may (n1 n2 i h : Nat) : Bool := n1 == 67 && n2 == h && decide (i < 2 ^ h)

theorem sig_cell {w : World} {g : Nat} {t : TypeId} {i : Nat} {r : List UInt8} {v1 v2 v3 : Value} (hr : r.length = 32) (h : Blk w g t (sigCells i r v1 v2 ++ [v3]).toArray) :
    w.cell? ⟨g, 0, none⟩ = some (.int .u32 i) ∧ w.cell? ⟨g, 33, none⟩ = some v1 ∧ w.cell? ⟨g, 34, none⟩ = some v2 ∧ w.cell? ⟨g, 35, none⟩ = some v3 := by
  have hl : (bcells r).length = 32 := by rw [bcells_length]; exact hr
  refine ⟨?_, ?_, ?_, ?_⟩ <;> rw [h.cell] <;> simp [sigCells, hl]
theorem div_pow_eq (i h : Nat) : (((i : Int) / 2 ^ h) == 0) = decide (i < 2 ^ h) := by
  rw [Bool.eq_iff_iff, beq_iff_eq, decide_eq_true_eq]
  have e : ((i : Int) / 2 ^ h) = ((i / 2 ^ h : Nat) : Int) := by rw [Int.natCast_ediv, Int.natCast_pow]; rfl
  rw [e, ← Nat.div_eq_zero_iff_lt (Nat.pow_pos (by omega))]
  omega
set_option maxRecDepth 100000 in
set_option maxHeartbeats 1000000 in
theorem may_any (i : Nat) (r : List UInt8) (hr : r.length = 32) (A1 A2 : Option Addr) (n1 c1 n2 c2 h : Nat) (_hi : i < 4294967296) (_hh : h ≤ 20) (w : World) :
    Calls Tryz.prog 114 #[.agg (sigCells i r (.slice A1 n1 c1) (.slice A2 n2 c2) ++ [Value.int .i64 h]).toArray] w fun e w' => e = .returned (.bool (may n1 n2 i h)) ∧ Below w.heap.size w w' := by
  obtain ⟨c0, c1, c2, c3⟩ := sig_cell hr (Blk.new w 192 (sigCells i r (.slice A1 n1 c1) (.slice A2 n2 c2) ++ [Value.int .i64 h]).toArray)
  go_enter Tryz.func114, Tryz.ntmps114
  by_cases h1 : n1 = 67
  · subst h1
    by_cases h2 : n2 = h
    · subst h2
      go_wp2
      go_ret
      exact ⟨by rw [div_pow_eq]; simp [may], (Below.refl _ _).alloc (Nat.le_refl _) _⟩
    · have e : may 67 n2 i h = false := by simp [may, h2]
      rw [e]
      clear e
      go_wp2
      go_ret
      exact ⟨rfl, (Below.refl _ _).alloc (Nat.le_refl _) _⟩
  · have e : may n1 n2 i h = false := by simp [may, h1]
    rw [e]
    clear e
    go_wp2
    go_ret
    exact ⟨rfl, (Below.refl _ _).alloc (Nat.le_refl _) _⟩
end Go.Proofs.YtipdmhppadapkaaGreatDoor
/-
  Walks: xmss.KeyOf of any bytes.
-/
namespace Go.Proofs.YtipdmhppadapkaaGreatDoor
open Go.RowKit

theorem reg_loadRd {P : Program} {o : Oper} {a : Act} {w : World} (ty : TypeId) (t : Tmp) (ho : o.op = .load ty (.tmp t)) {A : Option Addr} {B n : Nat} {l : List UInt8} (he : a.tmps[t]?.getD undef = .pointer A)
    (h : Rd w B 1 A n (bcells l)) {d : TypeDesc} (hu : P.underlying ty = some d) (hd : d.isRow = true) (hi : (P.info? ty).map (·.size) = some (bcells l).toArray.size) (hn : 0 < (bcells l).length) :
    (execOp a.eval o).run P w = .ok (.value (.agg (bcells l).toArray)) w := by
  obtain ⟨b, off, rfl, _, hr⟩ := h.range (by rw [← h.len]; exact hn)
  have := run_loadAt_mid (P := P) w b off ty (bcells l) d hr hu hd (by simpa using hi)
  simp [execOp, ho, Act.eval, he, this]

def keyCells (o : Nat) (r s : List UInt8) : List Value := .int .u32 o :: (bcells r ++ bcells s)
theorem keyCells_one (o : Nat) (r s : List UInt8) : ∀ v ∈ (keyCells o r s).toArray.toList, v.oneCell' = true := by
  intro v hv
  simp only [keyCells, List.mem_cons, List.mem_append] at hv
  rcases hv with rfl | h | h
  · rfl
  · exact bcells_one _ v h
  · exact bcells_one _ v h
theorem run_key (o : Nat) (r s : List UInt8) (w : World) (hr : r.length = 32) (hs : s.length = 32) :
    (Instr.build 97 #[(0, .int .u32 o), (1, .agg (bcells r).toArray), (2, .agg (bcells s).toArray)]).run Tryz.prog w = .ok (.agg (keyCells o r s).toArray) w := by
  have hl : (flat [.int .u32 o, .agg (bcells r).toArray, .agg (bcells s).toArray]) = keyCells o r s := by simp [flat, keyCells, Value.cells]
  have hn : (keyCells o r s).length = 65 := by simp [keyCells, bcells_length, hr, hs]
  have := run_build_rows (P := Tryz.prog) w (t := 97) (z := Tryz.zeroCells97) #[(0, .int .u32 o), (1, .agg (bcells r).toArray), (2, .agg (bcells s).toArray)] [.int .u32 o, .agg (bcells r).toArray, .agg (bcells s).toArray] [(0, 1), (1, 32), (33, 32)]
    Tryz.underlying97 (by kernel_rfl) (by kernel_rfl) rfl (by simp [Rows1, Value.cells, bcells_length, hr, hs]) (by rw [hl, hn]; exact Nat.le_of_eq (by kernel_rfl))
  rw [hl, hn] at this
  rw [this]
  have e : (Tryz.zeroCells97).toList.drop 65 = [] := by kernel_rfl
  rw [e, List.append_nil]

def zeroNode0 : List UInt8 := List.replicate 32 0
def keyOk (l : List UInt8) : Bool := l.length == 68 && isKind (rdNum l 0 4 false)
def keyVal (l : List UInt8) : List Value := if keyOk l then keyCells (rdNum l 0 4 false) ((l.drop 4).take 32) (l.drop 36) else keyCells 0 zeroNode0 zeroNode0
def keyErr (l : List UInt8) : Int := if keyOk l then 0 else 80
theorem keyZero : Tryz.zeroCells97 = (keyCells 0 zeroNode0 zeroNode0).toArray := by kernel_rfl

set_option maxRecDepth 100000 in
set_option maxHeartbeats 1000000 in
theorem mKeyOf_len (A : Option Addr) (n c : Nat) (l : List UInt8) (w : World) (h : Rd w w.heap.size 1 A n (bcells l)) (hn : n ≤ 1000000) (hk : isKind (rdNum l 0 4 false) = true) (h68 : ¬ n = 68) :
    Calls Tryz.prog 76 #[.slice A n c] w fun e w' => e = .returned (.tuple #[.agg Tryz.zeroCells97, .int .i64 80]) ∧ Below w.heap.size w w' := by
  go_enter Tryz.func76, Tryz.ntmps76
  go_wp2_with fail
  have B1 : Below w.heap.size w (w.alloc (.cells Tryz.zeroCells97 97)) := (Below.refl _ w).alloc (Nat.le_refl _) _
  have h1 : Rd (w.alloc (.cells Tryz.zeroCells97 97)) (w.alloc (.cells Tryz.zeroCells97 97)).heap.size 1 A n (bcells l) := (h.alloc (Nat.le_refl _) _).more (by simp)
  have hb := Blk.new w 97 Tryz.zeroCells97
  generalize w.alloc (.cells Tryz.zeroCells97 97) = W at *
  refine (be32_any A n c 0 l W h1 (by omega)).mono ?_
  rintro e w' ⟨rfl, rfl⟩
  go_wp2_with fail
  refine (mHeight_any (rdNum l 0 4 false) W).mono ?_
  rintro e w' ⟨rfl, rfl⟩
  rw [hk]
  have hzl : Tryz.zeroCells97.size = 65 := by kernel_rfl
  go_wp2_with ((with_reducible refine at_store 97 ?_); refine wpList_storeAll W rfl 97 _ _ rfl w.heap.size 97 _ Tryz.zeroCells97 hb rfl rfl rfl (by rw [hzl]; kernel_rfl) (fun v hv => Array.all_eq_true_iff_forall_mem.1 keyOne v (by simpa using hv)) ?_; intro w3 hb3 hg3 hs3)
  all_goals
    refine bodyPost_ret (results_cell_tmp rfl _ _ w.heap.size _ _ _ _ rfl hb3 Tryz.underlying97 rfl (by rw [hzl]; kernel_rfl)) rfl ⟨rfl, ?_⟩
    exact grown_below B1 hg3 B1.size (Nat.le_refl _)

set_option maxRecDepth 100000 in
set_option maxHeartbeats 2000000 in
theorem mKeyOf_yes (A : Option Addr) (c : Nat) (l : List UInt8) (w : World) (h : Rd w w.heap.size 1 A 68 (bcells l)) (hc : 68 ≤ c) (hk : isKind (rdNum l 0 4 false) = true)
    (r s : List UInt8) (hr : r = (l.drop 4).take 32) (hs : s = l.drop 36) :
    Calls Tryz.prog 76 #[.slice A 68 c] w fun e w' => e = .returned (.tuple #[.agg (keyCells (rdNum l 0 4 false) r s).toArray, .int .i64 0]) ∧ Below w.heap.size w w' := by
  have hlen : 68 = l.length := by have := h.len; rw [bcells_length] at this; omega
  have rL : Hid (r.length = 32) := Lib.hid (by rw [hr]; simp; omega)
  have sL : Hid (s.length = 32) := Lib.hid (by rw [hs]; simp; omega)
  have HLEN := Lib.hid hlen
  have HR := Lib.hid hr
  have HS := Lib.hid hs
  clear hlen hr hs
  go_enter Tryz.func76, Tryz.ntmps76
  go_wp2_with fail
  have B1 : Below w.heap.size w (w.alloc (.cells Tryz.zeroCells97 97)) := (Below.refl _ w).alloc (Nat.le_refl _) _
  have h1 : Rd (w.alloc (.cells Tryz.zeroCells97 97)) (w.alloc (.cells Tryz.zeroCells97 97)).heap.size 1 A 68 (bcells l) := (h.alloc (Nat.le_refl _) _).more (by simp)
  have hb := Blk.new w 97 Tryz.zeroCells97
  have hsz : Hid ((w.alloc (.cells Tryz.zeroCells97 97)).heap.size = w.heap.size + 1) := Lib.hid (by simp)
  generalize w.alloc (.cells Tryz.zeroCells97 97) = W at *
  refine (be32_any A 68 c 0 l W h1 (by omega)).mono ?_
  rintro e w' ⟨rfl, rfl⟩
  go_wp2_with fail
  refine (mHeight_any (rdNum l 0 4 false) W).mono ?_
  rintro e w' ⟨rfl, rfl⟩
  rw [hk]
  have hcut : CutTo A (if c = 4 then A else A.map fun x => ⟨x.block, x.off + 4, none⟩) 68 4 := by
    split
    · rename_i e; exact cutTo_cap hc e
    · rename_i e; exact cutTo_on (by omega) hc e
  by_cases h4 : c = 4
  · omega
  rw [if_neg h4] at hcut
  have h2 := hcut _ _ _ h
  clear hcut
  go_wp2_with fail
  generalize Option.map (fun x : Addr => (⟨x.block, x.off + 4, none⟩ : Addr)) A = A0 at *
  refine (cutter_any A0 64 (c - 4) W).mono ?_
  rintro e W1 ⟨rfl, hx, hE1, hs1⟩
  go_wp2_with fail
  refine (cut_any W.heap.size A0 64 (c - 4) W1 hx (by omega) (by omega)).mono ?_
  rintro e W2 ⟨A1, hC1, rfl, hx2, hg2, hs2⟩
  go_wp2_with fail
  refine (cut_any W.heap.size A1 32 (c - 4 - 32) W2 hx2 (by omega) (by omega)).mono ?_
  rintro e W3 ⟨A2, hC2, rfl, hx3, hg3, hs3⟩
  go_wp2_with fail
  have hz := ((hb.ext hE1).grown hg2 (by simp; have := hsz.out; omega)).grown hg3 (by simp; have := hsz.out; omega)
  have B3 := grown_below (grown_below (B1.trans (hE1.below B1.size)) hg2 (by have := B1.size; omega) B1.size) hg3 (by have := B1.size; omega) B1.size
  have hr1 : Rd W3.drew w.heap.size 1 A0 32 (bcells r) := by
    have := (h2.front (k := 32) (by omega)).below B3
    rw [HR.out]
    simp only [bcells, List.map_take, List.map_drop, Nat.mul_one] at this ⊢
    exact this.drew
  have hr2 : Rd W3.drew w.heap.size 1 A1 32 (bcells s) := by
    have := (hC1 _ _ _ h2).below B3
    rw [HS.out]
    simp only [bcells, List.map_drop, List.drop_drop] at this ⊢
    exact this.drew
  clear hg2 hg3 hx hx2 hx3 hE1 hb h2 hC1 hC2 h1
  have B3' := B3.drew
  have hk65 : (keyCells (rdNum l 0 4 false) r s).toArray.size = 65 := by simp [keyCells, bcells_length, rL.out, sL.out]
  refine Flow.wp_region_flow (w.heap.size) [(8, fun b => b = w.heap.size)] [(8, fun W => Blk W w.heap.size 97 Tryz.zeroCells97)] (by kernel_rfl) (by kernel_rfl) B3'.size (Flow.nz_cons (by rintro b rfl; exact Nat.le_refl _) Flow.nz_nil) (Flow.facts_cons (hz.drew) (Flow.kept_blk id) (Flow.fz_cons (Flow.no_follow (by kernel_rfl)) Flow.fz_nil) Flow.facts_nil) ?_
  refine Flow.pass_old 4 (Flow.met_none rfl) (.inl rfl) (by kernel_rfl) (by kernel_rfl) rfl ?_
  refine Flow.pass_old 9 (Flow.met_none rfl) (.inl rfl) (by kernel_rfl) (by kernel_rfl) rfl ?_
  refine Flow.pass_val (.pointer A0) (Flow.met_none rfl) (fun a W hH => ?_) ?_
  · have e0 := Flow.see_new 37 1 hH.sees (by kernel_rfl) (by kernel_rfl) rfl rfl
    exact Flow.reg_array _ rfl e0 Tryz.underlying39 (Nat.le_refl _)
  refine Flow.pass_val (.agg (bcells (r)).toArray) (Flow.met_none rfl) (fun a W hH => ?_) ?_
  · have e0 := Flow.see_new 38 2 hH.sees (by kernel_rfl) (by kernel_rfl) rfl rfl
    exact reg_loadRd 39 _ rfl e0 (hr1.below hH.below) Tryz.underlying39 rfl (by rw [List.size_toArray, bcells_length, rL.out]; exact infNode) (by rw [bcells_length, rL.out]; omega)
  refine Flow.pass_old 10 (Flow.met_none rfl) (.inl rfl) (by kernel_rfl) (by kernel_rfl) rfl ?_
  refine Flow.pass_val (.pointer A1) (Flow.met_none rfl) (fun a W hH => ?_) ?_
  · have e0 := Flow.see_new 40 4 hH.sees (by kernel_rfl) (by kernel_rfl) rfl rfl
    exact Flow.reg_array _ rfl e0 Tryz.underlying39 (Nat.le_refl _)
  refine Flow.pass_val (.agg (bcells (s)).toArray) (Flow.met_none rfl) (fun a W hH => ?_) ?_
  · have e0 := Flow.see_new 41 5 hH.sees (by kernel_rfl) (by kernel_rfl) rfl rfl
    exact reg_loadRd 39 _ rfl e0 (hr2.below hH.below) Tryz.underlying39 rfl (by rw [List.size_toArray, bcells_length, sL.out]; exact infNode) (by rw [bcells_length, sL.out]; omega)
  refine Flow.pass_val (.agg (keyCells (rdNum l 0 4 false) r s).toArray) (Flow.met_none rfl) (fun a W hH => ?_) ?_
  · have e0 := Flow.see_new 36 0 hH.sees (by kernel_rfl) (by kernel_rfl) rfl rfl
    have e1 := Flow.see_new 39 3 hH.sees (by kernel_rfl) (by kernel_rfl) rfl rfl
    have e2 := Flow.see_new 42 6 hH.sees (by kernel_rfl) (by kernel_rfl) rfl rfl
    exact Flow.reg_build _ rfl (by simp [Act.eval, e0, e1, e2]) (run_key (rdNum l 0 4 false) r s _ rL.out sL.out)
  refine Flow.pass_list (fun _ W => Blk W w.heap.size 97 (keyCells (rdNum l 0 4 false) r s).toArray) (Flow.kept_of (fun _ _ _ c h => h.chg c id) (Flow.kz_cons (Flow.no_follow (by kernel_rfl)) Flow.kz_nil)) (Flow.met_none rfl) (fun a W hH => ?_) ?_
  · have e0 := Flow.see_old 2 hH.sees (by kernel_rfl) (by kernel_rfl) rfl
    have e1 := Flow.see_new 43 7 hH.sees (by kernel_rfl) (by kernel_rfl) rfl rfl
    have fa0 : (fun W => Blk W w.heap.size 97 Tryz.zeroCells97) W := hH.fact _ (List.mem_of_getElem? (i := 0) rfl) rfl
    refine wpList_storeAll W rfl 97 _ _ rfl w.heap.size 97 _ (keyCells (rdNum l 0 4 false) r s).toArray fa0 (by simpa [Act.eval] using e0) (by simpa [Act.eval] using e1) (by rw [hk65]; kernel_rfl) (by rw [hk65]; kernel_rfl) (keyCells_one _ r s) ?_
    intro W2 h2 hg _
    exact Flow.qq_nil ⟨_, rfl, Chg.grown hg (by rintro k h; cases h; rfl), h2⟩
  apply Flow.pass_val (hm := (Flow.met_none rfl))
  · intro a W hH
    go_simp; first | done | rfl
  refine Flow.pass_end [none, none, none, some 3, none, none, none, none, none, none, none, none, none, none, none, none, none, none, none, none, none, none, none, none, none, none, none, none, none, none, none, none, none, none, none, none, some 36, some 37, some 38, some 39, some 40, some 41, some 42, some 43] (by kernel_rfl) ?_
  intro f g w9 hB hfa hT hfg
  have hb9 := hT 8 _ (by kernel_rfl) rfl
  have h3 : f 3 = .int .i64 0 := (hfg 3 9 (by kernel_rfl)).trans (hT 9 _ (by kernel_rfl) rfl)
  simp only [Reg.sel, h3]
  clear hT hfg hfa
  go_wp2
  refine bodyPost_ret (results_cell_tmp rfl _ _ w.heap.size _ _ _ _ rfl hb9 Tryz.underlying97 rfl (by rw [hk65]; kernel_rfl)) rfl ⟨rfl, ?_⟩
  exact B3'.trans hB

theorem mKeyOf_any (A : Option Addr) (n c : Nat) (l : List UInt8) (w : World) (h : Rd w w.heap.size 1 A n (bcells l)) (hn : n ≤ 1000000) (hc : n ≤ c) :
    Calls Tryz.prog 76 #[.slice A n c] w fun e w' => e = .returned (.tuple #[.agg (keyVal l).toArray, .int .i64 (keyErr l)]) ∧ Below w.heap.size w w' := by
  have hlen : n = l.length := by have := h.len; rw [bcells_length] at this; omega
  cases hk : isKind (rdNum l 0 4 false) with
  | false =>
    have e : keyOk l = false := by simp [keyOk, hk]
    have := mKeyOf_none A n c l w h hn hk
    rw [keyZero] at this
    rw [keyVal, keyErr, e]
    exact this
  | true =>
    by_cases h68 : n = 68
    · have e : keyOk l = true := by simp [keyOk, hk, ← hlen, h68]
      subst h68
      rw [keyVal, keyErr, e]
      exact mKeyOf_yes A c l w h hc hk _ _ rfl rfl
    · have e : keyOk l = false := by simp [keyOk, ← hlen, h68]
      have := mKeyOf_len A n c l w h hn hk h68
      rw [keyZero] at this
      rw [keyVal, keyErr, e]
      exact this
end Go.Proofs.YtipdmhppadapkaaGreatDoor
/-
  Walks: portreeveref04.KeyOf of any bytes.
-/
namespace Go.Proofs.YtipdmhppadapkaaGreatDoor
open Go.RowKit

theorem Rd.at_ {w : World} {B n : Nat} {A : Option Addr} {l : List UInt8} (h : Rd w B 1 A n (bcells l)) (k m : Nat) (hkm : k + m ≤ n) (hk : 0 < k) :
    Rd w B 1 (A.map fun x => ⟨x.block, x.off + k, none⟩) m (bcells ((l.drop k).take m)) := by
  have h1 := (cutTo_on (A := A) (n := n) (k := k) (c := n + k) hk (by omega) (by omega)) _ _ _ h
  have h2 := h1.front (k := m) (by omega)
  rw [Nat.mul_one] at h2
  simp only [bcells, List.map_take, List.map_drop] at h2 ⊢
  exact h2

set_option maxRecDepth 100000 in
set_option maxHeartbeats 1000000 in
theorem rKeyOf_no (A : Option Addr) (n c : Nat) (l : List UInt8) (w : World) (h : Rd w w.heap.size 1 A n (bcells l)) (hn : n ≤ 1000000) (h68 : ¬ n = 68 ∨ isKind (rdNum l 0 4 false) = false) :
    Calls Tryz.prog 43 #[.slice A n c] w fun e w' => e = .returned (.tuple #[.agg Tryz.zeroCells97, .int .i64 80]) ∧ Below w.heap.size w w' := by
  go_enter Tryz.func43, Tryz.ntmps43
  go_wp2_with fail
  have B1 : Below w.heap.size w (w.alloc (.cells Tryz.zeroCells97 97)) := (Below.refl _ w).alloc (Nat.le_refl _) _
  have h1 : Rd (w.alloc (.cells Tryz.zeroCells97 97)) (w.alloc (.cells Tryz.zeroCells97 97)).heap.size 1 A n (bcells l) := (h.alloc (Nat.le_refl _) _).more (by simp)
  have hb := Blk.new w 97 Tryz.zeroCells97
  generalize w.alloc (.cells Tryz.zeroCells97 97) = W at *
  refine (number_any A n c 0 false l W 4 h1 (by omega) (by omega) (by omega)).mono ?_
  rintro e w' ⟨rfl, rfl⟩
  have hlt := rdNum_lt l 0 4 false
  generalize rdNum l 0 4 false = o at *
  have hcv : IntKind.u32.wrap (o : Int) = (o : Int) := IntWalk.u32_in _ (by omega)
  go_wp2_with fail
  refine (rHeight_any o W).mono ?_
  rintro e w' ⟨rfl, rfl⟩
  have hzl : Tryz.zeroCells97.size = 65 := by kernel_rfl
  rcases h68 with h68 | h68
  · go_wp2_with ((with_reducible refine at_store 97 ?_); refine wpList_storeAll W rfl 97 _ _ rfl w.heap.size 97 _ Tryz.zeroCells97 hb rfl rfl rfl (by rw [hzl]; kernel_rfl) (fun v hv => Array.all_eq_true_iff_forall_mem.1 keyOne v (by simpa using hv)) ?_; intro w3 hb3 hg3 hs3)
    all_goals
      refine bodyPost_ret (results_cell_tmp rfl _ _ w.heap.size _ _ _ _ rfl hb3 Tryz.underlying97 rfl (by rw [hzl]; kernel_rfl)) rfl ⟨rfl, ?_⟩
      exact grown_below B1 hg3 B1.size (Nat.le_refl _)
  · rw [h68]
    go_wp2_with ((with_reducible refine at_store 97 ?_); refine wpList_storeAll W rfl 97 _ _ rfl w.heap.size 97 _ Tryz.zeroCells97 hb rfl rfl rfl (by rw [hzl]; kernel_rfl) (fun v hv => Array.all_eq_true_iff_forall_mem.1 keyOne v (by simpa using hv)) ?_; intro w3 hb3 hg3 hs3)
    all_goals
      refine bodyPost_ret (results_cell_tmp rfl _ _ w.heap.size _ _ _ _ rfl hb3 Tryz.underlying97 rfl (by rw [hzl]; kernel_rfl)) rfl ⟨rfl, ?_⟩
      exact grown_below B1 hg3 B1.size (Nat.le_refl _)

set_option maxRecDepth 100000 in
set_option maxHeartbeats 2000000 in
theorem rKeyOf_yes (A : Option Addr) (c : Nat) (l : List UInt8) (w : World) (h : Rd w w.heap.size 1 A 68 (bcells l)) (hc : 68 ≤ c) (hk : isKind (rdNum l 0 4 false) = true)
    (r s : List UInt8) (hr : r = (l.drop 4).take 32) (hs : s = l.drop 36) :
    Calls Tryz.prog 43 #[.slice A 68 c] w fun e w' => e = .returned (.tuple #[.agg (keyCells (rdNum l 0 4 false) r s).toArray, .int .i64 0]) ∧ Below w.heap.size w w' := by
  have hlen : 68 = l.length := by have := h.len; rw [bcells_length] at this; omega
  have rL : Hid (r.length = 32) := Lib.hid (by rw [hr]; simp; omega)
  have sL : Hid (s.length = 32) := Lib.hid (by rw [hs]; simp; omega)
  have HLEN := Lib.hid hlen
  have HR := Lib.hid hr
  have HS := Lib.hid hs
  clear hlen hr hs
  go_enter Tryz.func43, Tryz.ntmps43
  go_wp2_with fail
  have B1 : Below w.heap.size w (w.alloc (.cells Tryz.zeroCells97 97)) := (Below.refl _ w).alloc (Nat.le_refl _) _
  have h1 : Rd (w.alloc (.cells Tryz.zeroCells97 97)) (w.alloc (.cells Tryz.zeroCells97 97)).heap.size 1 A 68 (bcells l) := (h.alloc (Nat.le_refl _) _).more (by simp)
  have hb := Blk.new w 97 Tryz.zeroCells97
  generalize w.alloc (.cells Tryz.zeroCells97 97) = W at *
  refine (number_any A 68 c 0 false l W 4 h1 (by omega) (by omega) (by omega)).mono ?_
  rintro e w' ⟨rfl, rfl⟩
  have hlt := rdNum_lt l 0 4 false
  have hcv : IntKind.u32.wrap (rdNum l 0 4 false : Int) = (rdNum l 0 4 false : Int) := IntWalk.u32_in _ (by omega)
  go_wp2_with fail
  refine (rHeight_any (rdNum l 0 4 false) W).mono ?_
  rintro e w' ⟨rfl, rfl⟩
  rw [hk]
  have hz := hb
  have B3' := B1.drew
  have hr1 : Rd W.drew w.heap.size 1 (A.map fun x => ⟨x.block, x.off + 4, none⟩) 32 (bcells r) := by
    have := ((h.at_ 4 32 (by omega) (by omega)).below B1).drew
    rw [HR.out]
    exact this
  have hr2 : Rd W.drew w.heap.size 1 (A.map fun x => ⟨x.block, x.off + 36, none⟩) 32 (bcells s) := by
    have := ((h.at_ 36 32 (by omega) (by omega)).below B1).drew
    rw [HS.out]
    rw [List.take_of_length_le (by have := HLEN.out; simp; omega)] at this
    exact this
  have hk65 : (keyCells (rdNum l 0 4 false) r s).toArray.size = 65 := by simp [keyCells, bcells_length, rL.out, sL.out]
  have h4 : ¬ c = 4 := by omega
  have h36 : ¬ c = 36 := by omega
  have c36 : (36 : Int) ≤ (c : Int) := by omega
  go_wp2_with fail
  refine Flow.wp_region_flow (w.heap.size) [(11, fun b => b = w.heap.size)] [(11, fun W => Blk W w.heap.size 97 Tryz.zeroCells97)] (by kernel_rfl) (by kernel_rfl) B3'.size (Flow.nz_cons (by rintro b rfl; exact Nat.le_refl _) Flow.nz_nil) (Flow.facts_cons (hz.drew) (Flow.kept_blk id) (Flow.fz_cons (Flow.no_follow (by kernel_rfl)) Flow.fz_nil) Flow.facts_nil) ?_
  refine Flow.pass_old 4 (Flow.met_none rfl) (.inl rfl) (by kernel_rfl) (by kernel_rfl) rfl ?_
  refine Flow.pass_val (.int .u32 (rdNum l 0 4 false : Nat)) (Flow.met_none rfl) (fun a W hH => ?_) ?_
  · have e0 := Flow.see_new 27 0 hH.sees (by kernel_rfl) (by kernel_rfl) rfl rfl
    go_simp
  refine Flow.pass_old 0 (Flow.met_none rfl) (.inl rfl) (by kernel_rfl) (by kernel_rfl) rfl ?_
  refine Flow.pass_val (.slice (A.map fun x => ⟨x.block, x.off + 4, none⟩) 32 (c - 4)) (Flow.met_none rfl) (fun a W hH => ?_) ?_
  · have e0 := Flow.see_new 29 2 hH.sees (by kernel_rfl) (by kernel_rfl) rfl rfl
    go_simp
  refine Flow.pass_val (.pointer (A.map fun x => ⟨x.block, x.off + 4, none⟩)) (Flow.met_none rfl) (fun a W hH => ?_) ?_
  · have e0 := Flow.see_new 30 3 hH.sees (by kernel_rfl) (by kernel_rfl) rfl rfl
    exact Flow.reg_array _ rfl e0 Tryz.underlying39 (Nat.le_refl _)
  refine Flow.pass_val (.agg (bcells (r)).toArray) (Flow.met_none rfl) (fun a W hH => ?_) ?_
  · have e0 := Flow.see_new 31 4 hH.sees (by kernel_rfl) (by kernel_rfl) rfl rfl
    exact reg_loadRd 39 _ rfl e0 (hr1.below hH.below) Tryz.underlying39 rfl (by rw [List.size_toArray, bcells_length, rL.out]; exact infNode) (by rw [bcells_length, rL.out]; omega)
  refine Flow.pass_old 0 (Flow.met_none rfl) (.inl rfl) (by kernel_rfl) (by kernel_rfl) rfl ?_
  refine Flow.pass_val (.slice (A.map fun x => ⟨x.block, x.off + 36, none⟩) 32 (c - 36)) (Flow.met_none rfl) (fun a W hH => ?_) ?_
  · have e0 := Flow.see_new 33 6 hH.sees (by kernel_rfl) (by kernel_rfl) rfl rfl
    go_simp
  refine Flow.pass_val (.pointer (A.map fun x => ⟨x.block, x.off + 36, none⟩)) (Flow.met_none rfl) (fun a W hH => ?_) ?_
  · have e0 := Flow.see_new 34 7 hH.sees (by kernel_rfl) (by kernel_rfl) rfl rfl
    exact Flow.reg_array _ rfl e0 Tryz.underlying39 (Nat.le_refl _)
  refine Flow.pass_val (.agg (bcells (s)).toArray) (Flow.met_none rfl) (fun a W hH => ?_) ?_
  · have e0 := Flow.see_new 35 8 hH.sees (by kernel_rfl) (by kernel_rfl) rfl rfl
    exact reg_loadRd 39 _ rfl e0 (hr2.below hH.below) Tryz.underlying39 rfl (by rw [List.size_toArray, bcells_length, sL.out]; exact infNode) (by rw [bcells_length, sL.out]; omega)
  refine Flow.pass_val (.agg (keyCells (rdNum l 0 4 false) r s).toArray) (Flow.met_none rfl) (fun a W hH => ?_) ?_
  · have e0 := Flow.see_new 28 1 hH.sees (by kernel_rfl) (by kernel_rfl) rfl rfl
    have e1 := Flow.see_new 32 5 hH.sees (by kernel_rfl) (by kernel_rfl) rfl rfl
    have e2 := Flow.see_new 36 9 hH.sees (by kernel_rfl) (by kernel_rfl) rfl rfl
    exact Flow.reg_build _ rfl (by simp [Act.eval, e0, e1, e2]) (run_key (rdNum l 0 4 false) r s _ rL.out sL.out)
  refine Flow.pass_list (fun _ W => Blk W w.heap.size 97 (keyCells (rdNum l 0 4 false) r s).toArray) (Flow.kept_of (fun _ _ _ c h => h.chg c id) (Flow.kz_cons (Flow.no_follow (by kernel_rfl)) Flow.kz_nil)) (Flow.met_none rfl) (fun a W hH => ?_) ?_
  · have e0 := Flow.see_old 2 hH.sees (by kernel_rfl) (by kernel_rfl) rfl
    have e1 := Flow.see_new 37 10 hH.sees (by kernel_rfl) (by kernel_rfl) rfl rfl
    have fa0 : (fun W => Blk W w.heap.size 97 Tryz.zeroCells97) W := hH.fact _ (List.mem_of_getElem? (i := 0) rfl) rfl
    refine wpList_storeAll W rfl 97 _ _ rfl w.heap.size 97 _ (keyCells (rdNum l 0 4 false) r s).toArray fa0 (by simpa [Act.eval] using e0) (by simpa [Act.eval] using e1) (by rw [hk65]; kernel_rfl) (by rw [hk65]; kernel_rfl) (keyCells_one _ r s) ?_
    intro W2 h2 hg _
    exact Flow.qq_nil ⟨_, rfl, Chg.grown hg (by rintro k h; cases h; rfl), h2⟩
  apply Flow.pass_val (hm := (Flow.met_none rfl))
  · intro a W hH
    go_simp; first | done | rfl
  refine Flow.pass_end [none, none, none, some 3, none, none, none, none, none, none, none, none, none, none, none, none, none, none, none, none, none, none, none, none, none, none, none, some 27, some 28, some 29, some 30, some 31, some 32, some 33, some 34, some 35, some 36, some 37] (by kernel_rfl) ?_
  intro f g w9 hB hfa hT hfg
  have hb9 := hT 11 _ (by kernel_rfl) rfl
  have h3 : f 3 = .int .i64 0 := (hfg 3 12 (by kernel_rfl)).trans (hT 12 _ (by kernel_rfl) rfl)
  simp only [Reg.sel, h3]
  clear hT hfg hfa
  go_wp2
  refine bodyPost_ret (results_cell_tmp rfl _ _ w.heap.size _ _ _ _ rfl hb9 Tryz.underlying97 rfl (by rw [hk65]; kernel_rfl)) rfl ⟨rfl, ?_⟩
  exact B3'.trans hB

theorem rKeyOf_any (A : Option Addr) (n c : Nat) (l : List UInt8) (w : World) (h : Rd w w.heap.size 1 A n (bcells l)) (hn : n ≤ 1000000) (hc : n ≤ c) :
    Calls Tryz.prog 43 #[.slice A n c] w fun e w' => e = .returned (.tuple #[.agg (keyVal l).toArray, .int .i64 (keyErr l)]) ∧ Below w.heap.size w w' := by
  have hlen : n = l.length := by have := h.len; rw [bcells_length] at this; omega
  by_cases h68 : n = 68 ∧ isKind (rdNum l 0 4 false) = true
  · obtain ⟨h68, hk⟩ := h68
    have e : keyOk l = true := by simp [keyOk, hk, ← hlen, h68]
    subst h68
    rw [keyVal, keyErr, e]
    exact rKeyOf_yes A c l w h hc hk _ _ rfl rfl
  · have hor : ¬ n = 68 ∨ isKind (rdNum l 0 4 false) = false := by
      by_cases h1 : n = 68
      · right; cases h2 : isKind (rdNum l 0 4 false) <;> simp_all
      · exact .inl h1
    have e : keyOk l = false := by
      rcases hor with h1 | h1
      · simp [keyOk, ← hlen, h1]
      · simp [keyOk, h1]
    have := rKeyOf_no A n c l w h hn hor
    rw [keyZero] at this
    rw [keyVal, keyErr, e]
    exact this
end Go.Proofs.YtipdmhppadapkaaGreatDoor
/-
  == on whole values (structs, arrays) by what they read as.
-/
namespace Go.Proofs.YtipdmhppadapkaaGreatDoor
open Go.RowKit
section
variable {P : Program}
end
end Go.Proofs.YtipdmhppadapkaaGreatDoor
/-
  Walks: xmss.PutKey, portreeveref04.PutKey.
-/
namespace Go.Proofs.YtipdmhppadapkaaGreatDoor
open Go.RowKit

theorem run_buildBB (w : World) (A1 : Option Addr) (n1 c1 : Nat) (A2 : Option Addr) (n2 c2 : Nat) (A3 : Option Addr) (n3 c3 : Nat) :
    (Instr.buildSlice 153 3 #[(0, .slice A1 n1 c1), (1, .slice A2 n2 c2), (2, .slice A3 n3 c3)]).run Tryz.prog w = .ok (.slice (some ⟨w.heap.size, 0, none⟩) 3 3) (w.alloc (.cells #[.slice A1 n1 c1, .slice A2 n2 c2, .slice A3 n3 c3] 22)) := by
  go_simp
/-- bytes with an error's number, in memory of the call's own -/
def BytesErr (w : World) (L : List UInt8) (x : Int) (e : Ending) (w' : World) : Prop := ∃ A c, e = .returned (.tuple #[.slice A L.length c, .int .i64 x]) ∧ L.length ≤ c ∧ Rd w' w'.heap.size 1 A L.length (bcells L) ∧ Below w.heap.size w w'
end Go.Proofs.YtipdmhppadapkaaGreatDoor
/-
  Walk of the statement XmssKeys.
-/
namespace Go.Proofs.YtipdmhppadapkaaGreatDoor
open Go.RowKit

theorem keyVal_length (l : List UInt8) : (keyVal l).length = 65 := by
  unfold keyVal
  split
  · rename_i h
    simp only [keyOk, Bool.and_eq_true, beq_iff_eq] at h
    simp [keyCells, bcells_length]; omega
  · rfl
theorem keyVal_one (l : List UInt8) : ∀ v ∈ (keyVal l).toArray.toList, v.oneCell' = true := by
  unfold keyVal; split <;> exact keyCells_one _ _ _
theorem key65 : (Tryz.prog.info? 97).map (·.size) = some 65 := by kernel_rfl
theorem zero65 : Tryz.zeroCells97.size = 65 := by kernel_rfl
end Go.Proofs.YtipdmhppadapkaaGreatDoor
/-
  Walk: xmss.SigOf of bytes of the right length.
-/
namespace Go.Proofs.YtipdmhppadapkaaGreatDoor
open Go.RowKit

structure Sg where
  i : Nat
  r : List UInt8
  ots : List (List UInt8)
  auth : List (List UInt8)
def nodeAt (l : List UInt8) (k : Nat) : List UInt8 := (l.drop (36 + 32 * k)).take 32
def nodesAt (l : List UInt8) (p n : Nat) : List (List UInt8) := (List.range n).map fun k => nodeAt l (p + k)
theorem nodesAt_succ (l : List UInt8) (p n : Nat) : nodesAt l p (n + 1) = nodesAt l p n ++ [nodeAt l (p + n)] := by simp [nodesAt, List.range_succ]
theorem nodeAt_length (l : List UInt8) (k : Nat) (h : 36 + 32 * k + 32 ≤ l.length) : (nodeAt l k).length = 32 := by simp [nodeAt]; omega

theorem elN : Elem Tryz.prog 100 39 (.agg (bcells zeroNode0).toArray) 32 32 := Elem.of (by kernel_rfl) (by kernel_rfl) rfl (by omega)
theorem sg36 (idx : Nat) (r : List UInt8) (v1 v2 v3 : Value) (hr : r.length = 32) : (sigCells idx r v1 v2 ++ [v3]).toArray.size = 36 := by simp [sigCells, bcells_length, hr]
theorem sg_set33 (idx : Nat) (r : List UInt8) (v1 v2 v3 v : Value) (hr : r.length = 32) : (sigCells idx r v1 v2 ++ [v3]).toArray.setIfInBounds 33 v = (sigCells idx r v v2 ++ [v3]).toArray := by
  have hl : (bcells r).length = 32 := by rw [bcells_length]; exact hr
  simp [sigCells, hl]
theorem sg_set34 (idx : Nat) (r : List UInt8) (v1 v2 v3 v : Value) (hr : r.length = 32) : (sigCells idx r v1 v2 ++ [v3]).toArray.setIfInBounds 34 v = (sigCells idx r v1 v ++ [v3]).toArray := by
  have hl : (bcells r).length = 32 := by rw [bcells_length]; exact hr
  simp [sigCells, hl]
theorem run_node1 (w : World) (nd : List UInt8) (h : nd.length = 32) : (Instr.buildSlice 100 1 #[(0, .agg (bcells nd).toArray)]).run Tryz.prog w = .ok (.slice (some ⟨w.heap.size, 0, none⟩) 1 1) (w.alloc (.cells (bcells nd).toArray 39)) := by
  have := run_buildSlice_all (P := Tryz.prog) w elN 1 #[(0, .agg (bcells nd).toArray)] [.agg (bcells nd).toArray] rfl rfl (by omega) (by omega) (by simp [Value.cells, bcells_length, h])
  simpa [flat, Value.cells] using this

/-- append(l, n), n laid in a new block ahead -/
theorem wpList_appNode {ops : Array Oper} {rest : List Oper} {o : Oper} {a : Act} {Q : Exit → Act → World → Prop} (W : World) (hgd : o.guard = none) (s x : Operand) (ho : o.op = .call { callee := .builtin .append, args := #[s, x], argTypes := #[100, 100] })
    (base : Nat) (A : Option Addr) (k c : Nat) (ns : List (List UInt8)) (nd : List UInt8) (hnd : nd.length = 32) (hs : a.eval s = .slice A k c) (hown : W.ownsRow base 39 32 (.slice A k c) k (ncells ns))
    (hx : a.eval x = .slice (some ⟨W.heap.size, 0, none⟩) 1 1) (hk : k ≤ 100000) (hbase : base ≤ W.heap.size)
    (h : ∀ A1 c1 W5, W5.ownsRow base 39 32 (.slice A1 (k + 1) c1) (k + 1) (ncells (ns ++ [nd])) → Chg (fun b => (Value.slice A k c).ownBlock = some b) W W5 → Below base W W5 →
      (∀ b, (Value.slice A1 (k + 1) c1).ownBlock = some b → (Value.slice A k c).ownBlock = some b ∨ W.heap.size ≤ b) → wpList Tryz.prog ops Q rest (a.put o.dst (.slice A1 (k + 1) c1)) W5) :
    wpList Tryz.prog ops Q (o :: rest) a (W.alloc (.cells (bcells nd).toArray 39)) := by
  have hB := Blk.new W 39 (bcells nd).toArray
  refine wpList_app (W.alloc (.cells (bcells nd).toArray 39)) elN hgd s x ho base A k c _ hs (hown.alloc _) _ (some ⟨W.heap.size, 0, none⟩) 1 1 (bcells nd) hx
    (by have := hB.rd (size := 32) (n := 1) (by simp [bcells_length, hnd]); simpa using this) (bcells_one nd) (by omega) (by omega) (by simp; omega) ?_
  intro A1 c1 W5 hO5 hg5 hB5 hob
  refine h A1 c1 W5 (by rw [ncells_snoc]; exact hO5) ((Chg.of_ext ((Ext.refl W).alloc _)).trans (Chg.grown hg5 fun b hb => hb)) (((Below.refl base W).alloc hbase _).trans hB5) fun b hb => ?_
  rcases hob with h4 | h4
  · left; rw [← h4]; exact hb
  · right; rw [hb] at h4; cases h4; simp
end Go.Proofs.YtipdmhppadapkaaGreatDoor
/-
  Walk: xmss.SigOf of bytes of the right length: the loops.
-/
namespace Go.Proofs.YtipdmhppadapkaaGreatDoor
open Go.RowKit

def zsig : Array Value := (sigCells 0 zeroNode0 (.slice none 0 0) (.slice none 0 0)).toArray
theorem run_sig35 (idx : Nat) (r : List UInt8) (w : World) (hr : r.length = 32) : (Instr.build 102 #[(0, .int .u32 idx), (1, .agg (bcells r).toArray)]).run Tryz.prog w = .ok (.agg (sigCells idx r (.slice none 0 0) (.slice none 0 0)).toArray) w := by
  have hl : (flat [.int .u32 idx, .agg (bcells r).toArray]) = .int .u32 idx :: bcells r := by simp [flat, Value.cells]
  have hn : (Value.int .u32 idx :: bcells r).length = 33 := by simp [bcells_length, hr]
  have := run_build_rows (P := Tryz.prog) w (t := 102) (z := zsig) #[(0, .int .u32 idx), (1, .agg (bcells r).toArray)] [.int .u32 idx, .agg (bcells r).toArray] [(0, 1), (1, 32), (33, 1), (34, 1)]
    Tryz.underlying102 (by kernel_rfl) (by kernel_rfl) rfl (by simp [Rows1, Value.cells, bcells_length, hr]) (by rw [hl, hn]; exact of_decide_eq_true (by kernel_rfl))
  rw [hl, hn] at this
  rw [this]
  have e : zsig.toList.drop 33 = [.slice none 0 0, .slice none 0 0] := by kernel_rfl
  rw [e]
  simp [sigCells]
theorem run_sig36 (idx : Nat) (r : List UInt8) (v1 v2 : Value) (h : Nat) (w : World) (hr : r.length = 32) :
    (Instr.build 192 #[(0, .agg (sigCells idx r v1 v2).toArray), (1, .int .i64 h)]).run Tryz.prog w = .ok (.agg (sigCells idx r v1 v2 ++ [Value.int .i64 h]).toArray) w := by
  have hl : (flat [.agg (sigCells idx r v1 v2).toArray, .int .i64 h]) = sigCells idx r v1 v2 ++ [Value.int .i64 h] := by simp [flat, Value.cells]
  have hn : (sigCells idx r v1 v2 ++ [Value.int .i64 h]).length = 36 := by simp [sigCells, bcells_length, hr]
  have := run_build_rows (P := Tryz.prog) w (t := 192) (z := zsig ++ #[.int .i64 0]) #[(0, .agg (sigCells idx r v1 v2).toArray), (1, .int .i64 h)] [.agg (sigCells idx r v1 v2).toArray, .int .i64 h] [(0, 35), (35, 1)]
    Tryz.underlying192 (by kernel_rfl) (by kernel_rfl) rfl (by simp [Rows1, Value.cells, sigCells, bcells_length, hr]) (by rw [hl, hn]; exact of_decide_eq_true (by kernel_rfl))
  rw [hl, hn] at this
  rw [this]
  have e : (zsig ++ #[Value.int .i64 0]).toList.drop 36 = [] := by kernel_rfl
  rw [e]
  simp
theorem inf35 : (Tryz.prog.info? 102).map (·.size) = some 35 := by kernel_rfl
theorem inf36 : (Tryz.prog.info? 192).map (·.size) = some 36 := by kernel_rfl
theorem sg_one (idx : Nat) (r : List UInt8) (v1 v2 v3 : Value) (h1 : v1.oneCell' = true) (h2 : v2.oneCell' = true) (h3 : v3.oneCell' = true) : ∀ v ∈ (sigCells idx r v1 v2 ++ [v3]).toArray.toList, v.oneCell' = true := by
  intro v hv
  simp only [sigCells, List.mem_append, List.mem_cons, List.not_mem_nil, or_false] at hv
  rcases hv with (rfl | h | rfl | rfl) | rfl
  · rfl
  · exact bcells_one _ v h
  all_goals assumption
theorem sg35_one (idx : Nat) (r : List UInt8) (v1 v2 : Value) (h1 : v1.oneCell' = true) (h2 : v2.oneCell' = true) : ∀ v ∈ (sigCells idx r v1 v2).toArray.toList, v.oneCell' = true := by
  intro v hv
  simp only [sigCells, List.mem_append, List.mem_cons, List.not_mem_nil, or_false] at hv
  rcases hv with rfl | h | rfl | rfl
  · rfl
  · exact bcells_one _ v h
  all_goals assumption
/-- the cutter's box: what is left behind p nodes -/
def Box (w wr : World) (gx : Nat) (l : List UInt8) (p : Nat) : Prop :=
  ∃ Ax cx, Blk wr gx 22 #[.slice Ax (l.length - (36 + 32 * p)) cx] ∧ l.length - (36 + 32 * p) ≤ cx ∧ Rd w w.heap.size 1 Ax (l.length - (36 + 32 * p)) (bcells (l.drop (36 + 32 * p)))
def Loop1 (w : World) (g13 gx idx : Nat) (r l : List UInt8) (h k : Nat) (wr : World) : Prop :=
  Box w wr gx l k ∧ Below w.heap.size w wr ∧ Blk wr w.heap.size 102 zsig ∧
  ∃ A c, Blk wr g13 192 (sigCells idx r (.slice A k c) (.slice none 0 0) ++ [Value.int .i64 h]).toArray ∧ wr.ownsRow w.heap.size 39 32 (.slice A k c) k (ncells (nodesAt l 0 k))
def Loop2 (w : World) (g13 gx idx : Nat) (r l : List UInt8) (h k : Nat) (wr : World) : Prop :=
  Box w wr gx l (67 + k) ∧ Below w.heap.size w wr ∧ Blk wr w.heap.size 102 zsig ∧
  ∃ Ao co A c, Blk wr g13 192 (sigCells idx r (.slice Ao 67 co) (.slice A k c) ++ [Value.int .i64 h]).toArray ∧ wr.ownsRow w.heap.size 39 32 (.slice A k c) k (ncells (nodesAt l 67 k)) ∧
    wr.ownsRow w.heap.size 39 32 (.slice Ao 67 co) 67 (ncells (nodesAt l 0 67)) ∧ ∀ b, (Value.slice Ao 67 co).ownBlock = some b → ¬ (Value.slice A k c).ownBlock = some b

/-- what comes of bytes of the right length -/
def SigEnd (w : World) (l : List UInt8) (o idx : Nat) (r : List UInt8) (e : Ending) (w' : World) : Prop :=
  if idx < 2 ^ hgt o then ∃ A1 c1 A2 c2, e = .returned (.tuple #[.agg (sigCells idx r (.slice A1 67 c1) (.slice A2 (hgt o) c2)).toArray, .int .i64 0]) ∧
      67 ≤ c1 ∧ hgt o ≤ c2 ∧ Rd w' w'.heap.size 32 A1 67 (ncells (nodesAt l 0 67)) ∧ Rd w' w'.heap.size 32 A2 (hgt o) (ncells (nodesAt l 67 (hgt o))) ∧ Below w.heap.size w w'
  else e = .returned (.tuple #[.agg zsig, .int .i64 81]) ∧ Below w.heap.size w w'

set_option maxRecDepth 100000 in
set_option maxHeartbeats 8000000 in
theorem mSigOf_in (A : Option Addr) (c0 : Nat) (l : List UInt8) (o : Nat) (w : World) (h : Rd w w.heap.size 1 A l.length (bcells l)) (hc : l.length ≤ c0) (hk : isKind o = true) (hl : l.length = 36 + 32 * (67 + hgt o))
    (idx : Nat) (hidx : idx = rdNum l 0 4 false) (r : List UInt8) (hr : r = (l.drop 4).take 32) :
    Calls Tryz.prog 77 #[.slice A l.length c0, .int .u32 o] w (SigEnd w l o idx r) := by
  have hh : hgt o ≤ 20 := by unfold hgt; split <;> (try split) <;> (try split) <;> omega
  have hz : (sigSize o : Int) = (l.length : Nat) := by rw [hl]; simp [sigSize, hk]
  have rL : Hid (r.length = 32) := Lib.hid (by rw [hr]; simp; omega)
  have HR := Lib.hid hr
  have HI := Lib.hid hidx
  have HL := Lib.hid hl
  have HH := Lib.hid hh
  have hb35 := fun W => run_sig35 idx r W rL.out
  have hb36 := fun W => run_sig36 idx r (.slice none 0 0) (.slice none 0 0) (hgt o) W rL.out
  clear hr hidx hl hh
  go_enter Tryz.func77, Tryz.ntmps77
  go_wp2_with fail
  change Calls _ _ _ (w.alloc (.cells zsig 102)) _
  have B0 : Below w.heap.size w (w.alloc (.cells zsig 102)) := (Below.refl _ _).alloc (Nat.le_refl _) _
  have hb0 := Blk.new w 102 zsig
  have s0 : Hid ((w.alloc (.cells zsig 102)).heap.size = w.heap.size + 1) := Lib.hid (by simp)
  generalize w.alloc (.cells zsig 102) = W0 at *
  refine (mHeight_any o W0).mono ?_
  rintro e w' ⟨rfl, rfl⟩
  rw [hk]
  go_wp2_with fail
  refine (mSize_any o W0).mono ?_
  rintro e w' ⟨rfl, rfl⟩
  rw [hk, hz]
  go_wp2_with fail
  refine (be32_any A l.length c0 0 l W0 ((h.below B0).more B0.size) (by have := HL.out; have := HH.out; omega)).mono ?_
  rintro e w' ⟨rfl, rfl⟩
  rw [← HI.out]
  have hl36 : 36 ≤ l.length := by have := HL.out; omega
  have h4 : ¬ c0 = 4 := by omega
  have hR4 := cutTo_on (A := A) (n := l.length) (k := 4) (by omega) hc h4 _ _ _ h
  go_wp2_with fail
  generalize Option.map (fun x : Addr => (⟨x.block, x.off + 4, none⟩ : Addr)) A = A4 at *
  refine (cutter_any A4 (l.length - 4) (c0 - 4) W0).mono ?_
  rintro e W1 ⟨rfl, hx1, hE1, hs1⟩
  have HS1 := Lib.hid hs1
  clear hs1
  have B1 := B0.trans (hE1.below B0.size)
  have hb1 := hb0.ext hE1
  go_wp2_with fail
  refine (cut_any W0.heap.size A4 (l.length - 4) (c0 - 4) W1 hx1 (by omega) (by omega)).mono ?_
  rintro e W2 ⟨A5, hC5, rfl, hx2, hg2, hs2⟩
  have HS2 := Lib.hid hs2
  clear hs2
  have B2 := grown_below B1 hg2 (by have := B0.size; have := HS1.out; omega) B0.size
  have hb2 := hb1.grown hg2 (by simp; have := s0.out; omega)
  have hR36 := hC5 _ _ _ hR4
  have hrr : Rd W2 w.heap.size 1 A4 32 (bcells r) := by
    have := (hR4.front (k := 32) (by omega)).below B2
    rw [HR.out]
    simp only [bcells, List.map_take, List.map_drop, Nat.mul_one] at this ⊢
    exact this
  obtain ⟨rb, ro, rfl, _, hrange⟩ := hrr.range (by omega)
  have hl32 : Hid ((bcells r).length = 32) := Lib.hid (by rw [bcells_length]; exact rL.out)
  have harr := fun W => run_arrayAt (P := Tryz.prog) W Tryz.underlying39 (some ⟨rb, ro, none⟩) 32 (c0 - 4) (Nat.le_refl _)
  have hsg := Blk.new W2 192 (zsig ++ #[Value.int .i64 0])
  have hk36 : Hid ((sigCells idx r (.slice none 0 0) (.slice none 0 0) ++ [Value.int .i64 (hgt o)]).toArray.size = 36) := Lib.hid (by simp [sigCells, bcells_length, rL.out])
  clear hR4 hC5 hx1 hE1 hg2 hb0 hb1
  go_wp2_with (first
    | ((with_reducible refine at_load 39 ?_); refine wpList_load_mid rfl 39 _ rfl rb ro rfl (bcells r) _ hrange Tryz.underlying39 rfl (by rw [hl32.out]; exact infNode) ?_)
    | ((with_reducible refine at_build 102 ?_); refine wpList_buildV W2 rfl #[(0, .int .u32 idx), (1, .agg (bcells r).toArray)] rfl ?_ (hb35 W2) ?_; (simp [Act.eval, Act.put]))
    | ((with_reducible refine at_build 192 ?_); refine wpList_buildV W2 rfl #[(0, .agg (sigCells idx r (.slice none 0 0) (.slice none 0 0)).toArray), (1, .int .i64 (hgt o : Nat))] rfl ?_ (hb36 W2) ?_; (simp [Act.eval]))
    | ((with_reducible refine at_store 192 ?_); refine wpList_storeAll _ rfl 192 _ _ rfl W2.heap.size 192 _ _ hsg rfl rfl (by rw [hk36.out]; kernel_rfl) (by rw [hk36.out]; exact inf36) (sg_one _ _ _ _ _ rfl rfl rfl) ?_; intro W3 hb3 hg3 hs3))
  have hgx0 : w.heap.size ≤ W0.heap.size := B0.size
  have hg0 : w.heap.size ≤ W2.heap.size := B2.size
  have hgg : ¬ W2.heap.size = W0.heap.size := by have := HS1.out; have := HS2.out; omega
  have hgw : ¬ W2.heap.size = w.heap.size := by have := HS1.out; have := HS2.out; have := s0.out; omega
  have hgw' : ¬ W0.heap.size = w.heap.size := by have := s0.out; omega
  have B3 := grown_below (B2.alloc B2.size _) hg3 (by have := B2.size; simp; omega) B2.size
  have hx3 := (hx2.alloc (.cells (zsig ++ #[Value.int .i64 0]) 192)).grown hg3 (by simp; omega)
  have hz3 := (hb2.alloc (.cells (zsig ++ #[Value.int .i64 0]) 192)).grown hg3 (by simp; omega)
  have start : Loop1 w W2.heap.size W0.heap.size idx r l (hgt o) 0 W3 := by
    refine ⟨⟨A5, c0 - 4 - 32, ?_, by omega, ?_⟩, B3, hz3, none, 0, hb3, World.ownsRow_nil _ _ _ _⟩
    · rw [show l.length - (36 + 32 * 0) = l.length - 4 - 32 by omega]; exact hx3
    · rw [show l.length - (36 + 32 * 0) = l.length - 4 - 32 by omega]
      simp only [bcells, List.map_drop, List.drop_drop] at hR36 ⊢
      exact hR36
  generalize W2.heap.size = g13 at *
  generalize W0.heap.size = gx at *
  clear hsg hrange hg3 hs3 B3 hx3 hz3 hb3 hb2 hx2 hR36 hrr HS1 HS2 s0 B2 B1 B0 harr hb35 hb36
  go_loopw [48] (fun i wr => ∃ k : Nat, k ≤ 67 ∧ i = .int .i64 k ∧ Loop1 w g13 gx idx r l (hgt o) k wr) (fun i _ => 67 - (intOf i).toNat)
  case atStart => exact ⟨0, by omega, rfl, start⟩
  case round =>
    obtain ⟨k, hk67, rfl, hrel⟩ := hrel
    by_cases hlt : k < 67
    · go_wp2_with fail
      obtain ⟨⟨Ax, cx, hX, hncx, hRx⟩, B9, hZ, A, c, hS, hO⟩ := hrel
      obtain ⟨nx, hnxe⟩ : ∃ nx, nx = l.length - (36 + 32 * k) := ⟨_, rfl⟩
      rw [← hnxe] at hX hncx hRx
      have HNX := Lib.hid hnxe
      clear hnxe
      have hnx : 32 ≤ nx := by have := HNX.out; have := HL.out; omega
      have hszw := B9.size
      have hgl := hS.lt
      have hog : ¬ (Value.slice A k c).ownBlock = some g13 := fun e => own_ne hO hS (by decide) e rfl
      have hox : ¬ (Value.slice A k c).ownBlock = some gx := fun e => own_ne hO hX (by decide) e rfl
      have hoz : ¬ (Value.slice A k c).ownBlock = some w.heap.size := fun e => own_ne hO hZ (by decide) e rfl
      obtain ⟨ns, hns⟩ : ∃ ns, ns = nodesAt l 0 k := ⟨_, rfl⟩
      rw [← hns] at hO
      obtain ⟨nd, hnde⟩ : ∃ nd, nd = nodeAt l k := ⟨_, rfl⟩
      have hnd : Rd wr.drew w.heap.size 1 Ax 32 (bcells nd) := by
        have := ((hRx.front (k := 32) (by omega)).below B9).drew
        rw [hnde, nodeAt]
        simp only [bcells, List.map_take, List.map_drop, Nat.mul_one] at this ⊢
        exact this
      have ndL : Hid (nd.length = 32) := Lib.hid (by rw [hnde]; exact nodeAt_length l k (by have := HL.out; omega))
      have HNS := Lib.hid hns
      have HND := Lib.hid hnde
      clear hns hnde
      refine Flow.wp_region_flow (w.heap.size) [(4, fun b => b = gx), (8, fun b => (Value.slice A k c).ownBlock = some b), (11, fun b => b = g13)] [(2, fun W => Blk W g13 192 (sigCells idx r (.slice A k c) (.slice none 0 0) ++ [Value.int .i64 (hgt o)]).toArray), (4, fun W => Blk W gx 22 #[.slice Ax nx cx]), (8, fun W => W.ownsRow w.heap.size 39 32 (.slice A k c) k (ncells ns)), (11, fun W => Blk W g13 192 (sigCells idx r (.slice A k c) (.slice none 0 0) ++ [Value.int .i64 (hgt o)]).toArray), (12, fun W => Blk W w.heap.size 102 zsig)] (by kernel_rfl) (by kernel_rfl) B9.size (Flow.nz_cons (by rintro b rfl; exact hgx0) (Flow.nz_cons (fun b hb => (own_some hO hb).1) (Flow.nz_cons (by rintro b rfl; exact hg0) Flow.nz_nil))) (Flow.facts_cons (hS.drew) (Flow.kept_blk id) (Flow.fz_cons (fun _ => Flow.kept_blk hgg) (Flow.fz_cons (Flow.no_follow (by kernel_rfl)) (Flow.fz_cons (Flow.no_follow (by kernel_rfl)) Flow.fz_nil))) (Flow.facts_cons (hX.drew) (Flow.kept_blk id) (Flow.fz_cons (Flow.no_follow (by kernel_rfl)) (Flow.fz_cons (Flow.no_follow (by kernel_rfl)) (Flow.fz_cons (Flow.no_follow (by kernel_rfl)) Flow.fz_nil))) (Flow.facts_cons (hO.drew) (Flow.kept_own (fun _ _ => id)) (Flow.fz_cons (fun _ => Flow.kept_own (fun b hb e => hox (e ▸ hb))) (Flow.fz_cons (Flow.no_follow (by kernel_rfl)) (Flow.fz_cons (Flow.no_follow (by kernel_rfl)) Flow.fz_nil))) (Flow.facts_cons (hS.drew) (Flow.kept_blk id) (Flow.fz_cons (fun _ => Flow.kept_blk hgg) (Flow.fz_cons (fun _ => Flow.kept_blk hog) (Flow.fz_cons (Flow.no_follow (by kernel_rfl)) Flow.fz_nil))) (Flow.facts_cons (hZ.drew) (Flow.kept_blk id) (Flow.fz_cons (fun _ => Flow.kept_blk (fun e => hgw' e.symm)) (Flow.fz_cons (fun _ => Flow.kept_blk hoz) (Flow.fz_cons (fun _ => Flow.kept_blk (fun e => hgw e.symm)) Flow.fz_nil))) Flow.facts_nil))))) ?_
      apply Flow.pass_val (hm := (Flow.met_none rfl))
      · intro a W hH
        have e0 := Flow.see_old 13 hH.sees (by kernel_rfl) (by kernel_rfl) rfl
        go_simp; first | done | rfl
      refine Flow.pass_val (.pointer (some ⟨g13, 33, none⟩)) (Flow.met_none rfl) (fun a W hH => ?_) ?_
      · have e0 := Flow.see_new 50 0 hH.sees (by kernel_rfl) (by kernel_rfl) rfl rfl
        go_simp
      refine Flow.pass_val (.slice A k c) (Flow.met_none rfl) (fun a W hH => ?_) ?_
      · have e0 := Flow.see_new 51 1 hH.sees (by kernel_rfl) (by kernel_rfl) rfl rfl
        have fa0 : (fun W => Blk W g13 192 (sigCells idx r (.slice A k c) (.slice none 0 0) ++ [Value.int .i64 (hgt o)]).toArray) W := hH.fact _ (List.mem_of_getElem? (i := 0) rfl) rfl
        have cf := (sig_cell rL.out fa0).2.1; go_simp
      refine Flow.pass_old (X := .func (.func 140) #[] #[.pointer (some ⟨gx, 0, none⟩)]) 12 (Flow.met_none rfl) (.inl rfl) (by kernel_rfl) (by kernel_rfl) rfl ?_
      refine Flow.pass_gen (fun v W => ∃ A2, v = .slice Ax 32 cx ∧ (CutTo Ax A2 nx 32 ∧ Blk W gx 22 #[.slice A2 (nx - 32) (cx - 32)])) (Flow.kept_of (fun _ _ _ c ⟨A2, h1, h2, h3⟩ => ⟨A2, h1, h2, h3.chg c id⟩) (Flow.kz_cons (Flow.no_follow (by kernel_rfl)) (Flow.kz_cons (fun _ => fun _ _ _ c ⟨A2, h1, h2, h3⟩ => ⟨A2, h1, h2, h3.chg c hox⟩) (Flow.kz_cons (fun _ => fun _ _ _ c ⟨A2, h1, h2, h3⟩ => ⟨A2, h1, h2, h3.chg c (fun e => hgg e.symm)⟩) Flow.kz_nil)))) (Flow.met_none rfl) (fun a W hH => ?_) ?_
      · have e0 := Flow.see_new 53 3 hH.sees (by kernel_rfl) (by kernel_rfl) rfl rfl
        have fa1 : (fun W => Blk W gx 22 #[.slice Ax nx cx]) W := hH.fact _ (List.mem_of_getElem? (i := 1) rfl) rfl
        refine Flow.wp_callF rfl e0 Tryz.func140 rfl (by kernel_rfl) (by simp [Act.eval]) (cut_any gx Ax nx cx W fa1 hnx hncx) ?_
        rintro e w' ⟨A2, hC, rfl, hb2, hg2, _⟩
        exact ⟨_, rfl, Chg.grown hg2 (by rintro k h; cases h; rfl), A2, rfl, hC, hb2⟩
      refine Flow.pass_val (.pointer Ax) (Flow.met_none rfl) (fun a W hH => ?_) ?_
      · obtain ⟨A20, e0, q0⟩ := Flow.see_up 54 4 hH.sees (by kernel_rfl) (by kernel_rfl) rfl rfl
        exact Flow.reg_array _ rfl e0 Tryz.underlying39 (Nat.le_refl _)
      refine Flow.pass_val (.agg (bcells nd).toArray) (Flow.met_none rfl) (fun a W hH => ?_) ?_
      · have e0 := Flow.see_new 55 5 hH.sees (by kernel_rfl) (by kernel_rfl) rfl rfl
        exact reg_loadRd 39 _ rfl e0 (hnd.below hH.below) Tryz.underlying39 rfl (by rw [List.size_toArray, bcells_length, ndL.out]; exact infNode) (by rw [bcells_length, ndL.out]; omega)
      refine Flow.pass_gen (fun v W => ∃ b, v = .slice (some ⟨b, 0, none⟩) 1 1 ∧ (wr.heap.size ≤ b ∧ Blk W b 39 (bcells nd).toArray)) (Flow.kept_of (fun _ _ _ c ⟨b, h1, h2, h3⟩ => ⟨b, h1, h2, h3.chg c id⟩) (Flow.kz_cons (Flow.no_follow (by kernel_rfl)) (Flow.kz_cons (fun _ => fun _ _ _ c ⟨b, h1, h2, h3⟩ => ⟨b, h1, h2, h3.chg c (fun hb => by have := (own_some hO hb).2; omega)⟩) (Flow.kz_cons (fun _ => fun _ _ _ c ⟨b, h1, h2, h3⟩ => ⟨b, h1, h2, h3.chg c (fun e => by have e2 : b = g13 := e; omega)⟩) Flow.kz_nil)))) (Flow.met_none rfl) (fun a W hH => ?_) ?_
      · have e0 := Flow.see_new 56 6 hH.sees (by kernel_rfl) (by kernel_rfl) rfl rfl
        refine Flow.wp_run (Flow.reg_buildSlice _ rfl (by simp [Act.eval, e0]) (run_node1 W nd ndL.out)) ?_
        exact ⟨_, rfl, Chg.of_ext ((Ext.refl W).alloc _), W.heap.size, rfl, hH.below.size, Blk.new _ _ _⟩
      refine Flow.pass_list (fun v W => ∃ A1 c1, v = .slice A1 (k + 1) c1 ∧ (W.ownsRow w.heap.size 39 32 (.slice A1 (k + 1) c1) (k + 1) ((ncells ns) ++ bcells nd) ∧ ∀ b, (Value.slice A1 (k + 1) c1).ownBlock = some b → (Value.slice A k c).ownBlock = some b ∨ wr.heap.size ≤ b)) (Flow.kept_of (fun _ _ _ c ⟨A1, c1, h1, h2, h3⟩ => ⟨A1, c1, h1, own_chg h2 c (fun _ _ => id), h3⟩) (Flow.kz_cons (Flow.no_follow (by kernel_rfl)) (Flow.kz_cons (Flow.no_follow (by kernel_rfl)) (Flow.kz_cons (fun _ => fun _ _ _ c ⟨A1, c1, h1, h2, h3⟩ => ⟨A1, c1, h1, own_chg h2 c (fun b hb e => by have e2 : b = g13 := e; subst e2; rcases h3 _ hb with h4 | h4; exact hog h4; omega), h3⟩) Flow.kz_nil)))) (Flow.met_none rfl) (fun a W hH => ?_) ?_
      · have e0 := Flow.see_new 52 2 hH.sees (by kernel_rfl) (by kernel_rfl) rfl rfl
        obtain ⟨b1, e1, q1⟩ := Flow.see_up 57 7 hH.sees (by kernel_rfl) (by kernel_rfl) rfl rfl
        have fa2 : (fun W => W.ownsRow w.heap.size 39 32 (.slice A k c) k (ncells ns)) W := hH.fact _ (List.mem_of_getElem? (i := 2) rfl) rfl
        refine wpList_app W elN rfl _ _ rfl w.heap.size A k c _ (by simpa [Act.eval] using e0) fa2 W.heap.size (some ⟨b1, 0, none⟩) 1 1 (bcells nd) (by simpa [Act.eval] using e1) (by have := q1.2.rd (size := 32) (n := 1) (by simp [bcells_length, ndL.out]); simpa using this) (bcells_one nd) (by omega) (by omega) (Nat.le_trans hszw hH.below.size) ?_
        intro A1 c1 W2 hO2 hg hB hob
        refine Flow.qq_nil ⟨_, rfl, Chg.grown hg (fun b hb => hb), A1, c1, rfl, hO2, fun b hb => ?_⟩
        rcases hob with h4 | h4
        · left; rw [← h4]; exact hb
        · right; rw [hb] at h4; cases h4; exact hH.below.size
      apply Flow.pass_val (hm := (Flow.met_none rfl))
      · intro a W hH
        have e0 := Flow.see_old 13 hH.sees (by kernel_rfl) (by kernel_rfl) rfl
        go_simp; first | done | rfl
      refine Flow.pass_val (.pointer (some ⟨g13, 33, none⟩)) (Flow.met_none rfl) (fun a W hH => ?_) ?_
      · have e0 := Flow.see_new 59 9 hH.sees (by kernel_rfl) (by kernel_rfl) rfl rfl
        go_simp
      refine Flow.pass_gen (fun _ W => ∃ A1 c1, Blk W g13 192 (sigCells idx r (.slice A1 (k + 1) c1) (.slice none 0 0) ++ [Value.int .i64 (hgt o)]).toArray ∧ (W.ownsRow w.heap.size 39 32 (.slice A1 (k + 1) c1) (k + 1) ((ncells ns) ++ bcells nd) ∧ ∀ b, (Value.slice A1 (k + 1) c1).ownBlock = some b → (Value.slice A k c).ownBlock = some b ∨ wr.heap.size ≤ b)) (Flow.kept_of (fun _ _ _ c ⟨A1, c1, h1, h2, h3⟩ => ⟨A1, c1, h1.chg c id, own_chg h2 c (fun _ _ => id), h3⟩) (Flow.kz_cons (Flow.no_follow (by kernel_rfl)) (Flow.kz_cons (Flow.no_follow (by kernel_rfl)) (Flow.kz_cons (Flow.no_follow (by kernel_rfl)) Flow.kz_nil)))) (Flow.met_none rfl) (fun a W hH => ?_) ?_
      · have e0 := Flow.see_new 60 10 hH.sees (by kernel_rfl) (by kernel_rfl) rfl rfl
        obtain ⟨A11, c11, e1, q1⟩ := Flow.see_up 58 8 hH.sees (by kernel_rfl) (by kernel_rfl) rfl rfl
        have fa3 : (fun W => Blk W g13 192 (sigCells idx r (.slice A k c) (.slice none 0 0) ++ [Value.int .i64 (hgt o)]).toArray) W := hH.fact _ (List.mem_of_getElem? (i := 3) rfl) rfl
        refine wp_skip (reg_storeSlice rfl (by kernel_rfl) fa3 e0 e1 (by rw [sg36 idx r _ _ _ rL.out]; omega)) ?_
        obtain ⟨hO2, hob⟩ := q1
        refine ⟨_, rfl, Chg.grown (grown_set W g13 33 _) (by rintro k h; cases h; rfl), A11, c11, ?_, own_chg hO2 (Chg.grown (grown_set W g13 33 _) (Z := fun b => b = g13) (by rintro k h; cases h; rfl)) (fun b hb e => by have e2 : b = g13 := e; subst e2; rcases hob _ hb with h4 | h4; exact hog h4; omega), hob⟩
        have := fa3.set_ 33 (.slice A11 (k + 1) c11)
        rwa [sg_set33 idx r _ _ _ _ rL.out] at this
      refine Flow.pass_end [none, none, none, none, none, none, none, none, none, none, none, none, none, none, none, none, none, none, none, none, none, none, none, none, none, none, none, none, none, none, none, none, none, none, none, none, none, none, none, none, none, none, none, none, none, none, none, none, none, none, some 50, some 51, some 52, some 53, some 54, some 55, some 56, some 57, some 58, some 59, some 60, none, none, none, none, none, none, none, none, none, none, none, none, none, none, none, none, none, none, none, none, none, none] (by kernel_rfl) ?_
      intro f g w9 hB hfa hT hfg
      have F4 : (fun W => Blk W w.heap.size 102 zsig) w9 := hfa _ (List.mem_of_getElem? (i := 4) rfl) (Nat.le_refl _)
      obtain ⟨A2, _, hC2, hb2⟩ := hT 4 _ (by kernel_rfl) rfl
      obtain ⟨A3, c3, hS3, hO3, _⟩ := hT 11 _ (by kernel_rfl) rfl
      have nxt : Loop1 w g13 gx idx r l (hgt o) (k + 1) w9 := by
        refine ⟨⟨A2, cx - 32, ?_, ?_, ?_⟩, B9.drew.trans hB, F4, A3, c3, hS3, ?_⟩
        · have : l.length - (36 + 32 * (k + 1)) = nx - 32 := by have := HNX.out; omega
          rw [this]; exact hb2
        · have := HNX.out; omega
        · have h1 := hC2 _ _ _ hRx
          have : l.length - (36 + 32 * (k + 1)) = nx - 32 := by have := HNX.out; omega
          rw [this]
          simp only [bcells, List.map_drop, List.drop_drop] at h1 ⊢
          rw [show 36 + 32 * (k + 1) = 36 + 32 * k + 32 by omega]
          exact h1
        · rw [nodesAt_succ, ncells_snoc, Nat.zero_add, ← HNS.out, ← HND.out]
          exact hO3
      simp only [Reg.sel]
      clear hT hfg hfa F4 hB hS3 hO3 hC2 hb2 hS hO hX hZ hRx hnd
      go_wp2
      go_roundw
      case rel => exact ⟨k + 1, by omega, by go_num, nxt⟩
      case measure => simp [intOf]; omega
    · obtain rfl : k = 67 := by omega
      obtain ⟨hBx, B9, hZ, A, c, hS, hO⟩ := hrel
      have start2 : Loop2 w g13 gx idx r l (hgt o) 0 wr := ⟨hBx, B9, hZ, A, c, none, 0, hS, World.ownsRow_nil _ _ _ _, hO, fun b _ h => by cases h⟩
      clear hBx B9 hZ hS hO start
      go_wp2_with fail
      have hh := HH.out
      go_loopw [63] (fun i wr => ∃ k : Nat, k ≤ hgt o ∧ i = .int .i64 k ∧ Loop2 w g13 gx idx r l (hgt o) k wr) (fun i _ => 20 - (intOf i).toNat)
      case atStart => exact ⟨0, by omega, rfl, start2⟩
      case round =>
        obtain ⟨k, hkh, rfl, hrel⟩ := hrel
        by_cases hlt : k < hgt o
        · go_wp2_with fail
          obtain ⟨⟨Ax, cx, hX, hncx, hRx⟩, B9, hZ, Ao, co, A, c, hS, hO, hOo, hoo⟩ := hrel
          obtain ⟨nx, hnxe⟩ : ∃ nx, nx = l.length - (36 + 32 * (67 + k)) := ⟨_, rfl⟩
          rw [← hnxe] at hX hncx hRx
          have HNX := Lib.hid hnxe
          clear hnxe
          have hnx : 32 ≤ nx := by have := HNX.out; have := HL.out; omega
          have hszw := B9.size
          have hgl := hS.lt
          have hog : ¬ (Value.slice A k c).ownBlock = some g13 := fun e => own_ne hO hS (by decide) e rfl
          have hox : ¬ (Value.slice A k c).ownBlock = some gx := fun e => own_ne hO hX (by decide) e rfl
          have hoz : ¬ (Value.slice A k c).ownBlock = some w.heap.size := fun e => own_ne hO hZ (by decide) e rfl
          have hoog : ¬ (Value.slice Ao 67 co).ownBlock = some g13 := fun e => own_ne hOo hS (by decide) e rfl
          have hoox : ¬ (Value.slice Ao 67 co).ownBlock = some gx := fun e => own_ne hOo hX (by decide) e rfl
          obtain ⟨ns, hns⟩ : ∃ ns, ns = nodesAt l 67 k := ⟨_, rfl⟩
          rw [← hns] at hO
          obtain ⟨no, hno⟩ : ∃ no, no = nodesAt l 0 67 := ⟨_, rfl⟩
          rw [← hno] at hOo
          obtain ⟨nd, hnde⟩ : ∃ nd, nd = nodeAt l (67 + k) := ⟨_, rfl⟩
          have hnd : Rd wr.drew w.heap.size 1 Ax 32 (bcells nd) := by
            have := ((hRx.front (k := 32) (by omega)).below B9).drew
            rw [hnde, nodeAt]
            simp only [bcells, List.map_take, List.map_drop, Nat.mul_one] at this ⊢
            exact this
          have ndL : Hid (nd.length = 32) := Lib.hid (by rw [hnde]; exact nodeAt_length l _ (by have := HL.out; omega))
          have HNS := Lib.hid hns
          have HNO := Lib.hid hno
          have HND := Lib.hid hnde
          clear hns hnde hno
          refine Flow.wp_region_flow (w.heap.size) [(4, fun b => b = gx), (8, fun b => (Value.slice A k c).ownBlock = some b), (11, fun b => b = g13)] [(2, fun W => Blk W g13 192 (sigCells idx r (.slice Ao 67 co) (.slice A k c) ++ [Value.int .i64 (hgt o)]).toArray), (4, fun W => Blk W gx 22 #[.slice Ax nx cx]), (8, fun W => W.ownsRow w.heap.size 39 32 (.slice A k c) k (ncells ns)), (11, fun W => Blk W g13 192 (sigCells idx r (.slice Ao 67 co) (.slice A k c) ++ [Value.int .i64 (hgt o)]).toArray), (12, fun W => W.ownsRow w.heap.size 39 32 (.slice Ao 67 co) 67 (ncells no)), (12, fun W => Blk W w.heap.size 102 zsig)] (by kernel_rfl) (by kernel_rfl) B9.size (Flow.nz_cons (by rintro b rfl; exact hgx0) (Flow.nz_cons (fun b hb => (own_some hO hb).1) (Flow.nz_cons (by rintro b rfl; exact hg0) Flow.nz_nil))) (Flow.facts_cons (hS.drew) (Flow.kept_blk id) (Flow.fz_cons (fun _ => Flow.kept_blk hgg) (Flow.fz_cons (Flow.no_follow (by kernel_rfl)) (Flow.fz_cons (Flow.no_follow (by kernel_rfl)) Flow.fz_nil))) (Flow.facts_cons (hX.drew) (Flow.kept_blk id) (Flow.fz_cons (Flow.no_follow (by kernel_rfl)) (Flow.fz_cons (Flow.no_follow (by kernel_rfl)) (Flow.fz_cons (Flow.no_follow (by kernel_rfl)) Flow.fz_nil))) (Flow.facts_cons (hO.drew) (Flow.kept_own (fun _ _ => id)) (Flow.fz_cons (fun _ => Flow.kept_own (fun b hb e => hox (e ▸ hb))) (Flow.fz_cons (Flow.no_follow (by kernel_rfl)) (Flow.fz_cons (Flow.no_follow (by kernel_rfl)) Flow.fz_nil))) (Flow.facts_cons (hS.drew) (Flow.kept_blk id) (Flow.fz_cons (fun _ => Flow.kept_blk hgg) (Flow.fz_cons (fun _ => Flow.kept_blk hog) (Flow.fz_cons (Flow.no_follow (by kernel_rfl)) Flow.fz_nil))) (Flow.facts_cons (hOo.drew) (Flow.kept_own (fun _ _ => id)) (Flow.fz_cons (fun _ => Flow.kept_own (fun b hb e => hoox (e ▸ hb))) (Flow.fz_cons (fun _ => Flow.kept_own (fun b hb e => hoo b hb e)) (Flow.fz_cons (fun _ => Flow.kept_own (fun b hb e => hoog (e ▸ hb))) Flow.fz_nil))) (Flow.facts_cons (hZ.drew) (Flow.kept_blk id) (Flow.fz_cons (fun _ => Flow.kept_blk (fun e => hgw' e.symm)) (Flow.fz_cons (fun _ => Flow.kept_blk hoz) (Flow.fz_cons (fun _ => Flow.kept_blk (fun e => hgw e.symm)) Flow.fz_nil))) Flow.facts_nil)))))) ?_
          apply Flow.pass_val (hm := (Flow.met_none rfl))
          · intro a W hH
            have e0 := Flow.see_old 13 hH.sees (by kernel_rfl) (by kernel_rfl) rfl
            go_simp; first | done | rfl
          refine Flow.pass_val (.pointer (some ⟨g13, 34, none⟩)) (Flow.met_none rfl) (fun a W hH => ?_) ?_
          · have e0 := Flow.see_new 65 0 hH.sees (by kernel_rfl) (by kernel_rfl) rfl rfl
            go_simp
          refine Flow.pass_val (.slice A k c) (Flow.met_none rfl) (fun a W hH => ?_) ?_
          · have e0 := Flow.see_new 66 1 hH.sees (by kernel_rfl) (by kernel_rfl) rfl rfl
            have fa0 : (fun W => Blk W g13 192 (sigCells idx r (.slice Ao 67 co) (.slice A k c) ++ [Value.int .i64 (hgt o)]).toArray) W := hH.fact _ (List.mem_of_getElem? (i := 0) rfl) rfl
            have cf := (sig_cell rL.out fa0).2.2.1; go_simp
          refine Flow.pass_old (X := .func (.func 140) #[] #[.pointer (some ⟨gx, 0, none⟩)]) 12 (Flow.met_none rfl) (.inl rfl) (by kernel_rfl) (by kernel_rfl) rfl ?_
          refine Flow.pass_gen (fun v W => ∃ A2, v = .slice Ax 32 cx ∧ (CutTo Ax A2 nx 32 ∧ Blk W gx 22 #[.slice A2 (nx - 32) (cx - 32)])) (Flow.kept_of (fun _ _ _ c ⟨A2, h1, h2, h3⟩ => ⟨A2, h1, h2, h3.chg c id⟩) (Flow.kz_cons (Flow.no_follow (by kernel_rfl)) (Flow.kz_cons (fun _ => fun _ _ _ c ⟨A2, h1, h2, h3⟩ => ⟨A2, h1, h2, h3.chg c hox⟩) (Flow.kz_cons (fun _ => fun _ _ _ c ⟨A2, h1, h2, h3⟩ => ⟨A2, h1, h2, h3.chg c (fun e => hgg e.symm)⟩) Flow.kz_nil)))) (Flow.met_none rfl) (fun a W hH => ?_) ?_
          · have e0 := Flow.see_new 68 3 hH.sees (by kernel_rfl) (by kernel_rfl) rfl rfl
            have fa1 : (fun W => Blk W gx 22 #[.slice Ax nx cx]) W := hH.fact _ (List.mem_of_getElem? (i := 1) rfl) rfl
            refine Flow.wp_callF rfl e0 Tryz.func140 rfl (by kernel_rfl) (by simp [Act.eval]) (cut_any gx Ax nx cx W fa1 hnx hncx) ?_
            rintro e w' ⟨A2, hC, rfl, hb2, hg2, _⟩
            exact ⟨_, rfl, Chg.grown hg2 (by rintro k h; cases h; rfl), A2, rfl, hC, hb2⟩
          refine Flow.pass_val (.pointer Ax) (Flow.met_none rfl) (fun a W hH => ?_) ?_
          · obtain ⟨A20, e0, q0⟩ := Flow.see_up 69 4 hH.sees (by kernel_rfl) (by kernel_rfl) rfl rfl
            exact Flow.reg_array _ rfl e0 Tryz.underlying39 (Nat.le_refl _)
          refine Flow.pass_val (.agg (bcells nd).toArray) (Flow.met_none rfl) (fun a W hH => ?_) ?_
          · have e0 := Flow.see_new 70 5 hH.sees (by kernel_rfl) (by kernel_rfl) rfl rfl
            exact reg_loadRd 39 _ rfl e0 (hnd.below hH.below) Tryz.underlying39 rfl (by rw [List.size_toArray, bcells_length, ndL.out]; exact infNode) (by rw [bcells_length, ndL.out]; omega)
          refine Flow.pass_gen (fun v W => ∃ b, v = .slice (some ⟨b, 0, none⟩) 1 1 ∧ (wr.heap.size ≤ b ∧ Blk W b 39 (bcells nd).toArray)) (Flow.kept_of (fun _ _ _ c ⟨b, h1, h2, h3⟩ => ⟨b, h1, h2, h3.chg c id⟩) (Flow.kz_cons (Flow.no_follow (by kernel_rfl)) (Flow.kz_cons (fun _ => fun _ _ _ c ⟨b, h1, h2, h3⟩ => ⟨b, h1, h2, h3.chg c (fun hb => by have := (own_some hO hb).2; omega)⟩) (Flow.kz_cons (fun _ => fun _ _ _ c ⟨b, h1, h2, h3⟩ => ⟨b, h1, h2, h3.chg c (fun e => by have e2 : b = g13 := e; omega)⟩) Flow.kz_nil)))) (Flow.met_none rfl) (fun a W hH => ?_) ?_
          · have e0 := Flow.see_new 71 6 hH.sees (by kernel_rfl) (by kernel_rfl) rfl rfl
            refine Flow.wp_run (Flow.reg_buildSlice _ rfl (by simp [Act.eval, e0]) (run_node1 W nd ndL.out)) ?_
            exact ⟨_, rfl, Chg.of_ext ((Ext.refl W).alloc _), W.heap.size, rfl, hH.below.size, Blk.new _ _ _⟩
          refine Flow.pass_list (fun v W => ∃ A1 c1, v = .slice A1 (k + 1) c1 ∧ (W.ownsRow w.heap.size 39 32 (.slice A1 (k + 1) c1) (k + 1) ((ncells ns) ++ bcells nd) ∧ ∀ b, (Value.slice A1 (k + 1) c1).ownBlock = some b → (Value.slice A k c).ownBlock = some b ∨ wr.heap.size ≤ b)) (Flow.kept_of (fun _ _ _ c ⟨A1, c1, h1, h2, h3⟩ => ⟨A1, c1, h1, own_chg h2 c (fun _ _ => id), h3⟩) (Flow.kz_cons (Flow.no_follow (by kernel_rfl)) (Flow.kz_cons (Flow.no_follow (by kernel_rfl)) (Flow.kz_cons (fun _ => fun _ _ _ c ⟨A1, c1, h1, h2, h3⟩ => ⟨A1, c1, h1, own_chg h2 c (fun b hb e => by have e2 : b = g13 := e; subst e2; rcases h3 _ hb with h4 | h4; exact hog h4; omega), h3⟩) Flow.kz_nil)))) (Flow.met_none rfl) (fun a W hH => ?_) ?_
          · have e0 := Flow.see_new 67 2 hH.sees (by kernel_rfl) (by kernel_rfl) rfl rfl
            obtain ⟨b1, e1, q1⟩ := Flow.see_up 72 7 hH.sees (by kernel_rfl) (by kernel_rfl) rfl rfl
            have fa2 : (fun W => W.ownsRow w.heap.size 39 32 (.slice A k c) k (ncells ns)) W := hH.fact _ (List.mem_of_getElem? (i := 2) rfl) rfl
            refine wpList_app W elN rfl _ _ rfl w.heap.size A k c _ (by simpa [Act.eval] using e0) fa2 W.heap.size (some ⟨b1, 0, none⟩) 1 1 (bcells nd) (by simpa [Act.eval] using e1) (by have := q1.2.rd (size := 32) (n := 1) (by simp [bcells_length, ndL.out]); simpa using this) (bcells_one nd) (by omega) (by omega) (Nat.le_trans hszw hH.below.size) ?_
            intro A1 c1 W2 hO2 hg hB hob
            refine Flow.qq_nil ⟨_, rfl, Chg.grown hg (fun b hb => hb), A1, c1, rfl, hO2, fun b hb => ?_⟩
            rcases hob with h4 | h4
            · left; rw [← h4]; exact hb
            · right; rw [hb] at h4; cases h4; exact hH.below.size
          apply Flow.pass_val (hm := (Flow.met_none rfl))
          · intro a W hH
            have e0 := Flow.see_old 13 hH.sees (by kernel_rfl) (by kernel_rfl) rfl
            go_simp; first | done | rfl
          refine Flow.pass_val (.pointer (some ⟨g13, 34, none⟩)) (Flow.met_none rfl) (fun a W hH => ?_) ?_
          · have e0 := Flow.see_new 74 9 hH.sees (by kernel_rfl) (by kernel_rfl) rfl rfl
            go_simp
          refine Flow.pass_gen (fun _ W => ∃ A1 c1, Blk W g13 192 (sigCells idx r (.slice Ao 67 co) (.slice A1 (k + 1) c1) ++ [Value.int .i64 (hgt o)]).toArray ∧ (W.ownsRow w.heap.size 39 32 (.slice A1 (k + 1) c1) (k + 1) ((ncells ns) ++ bcells nd) ∧ ∀ b, (Value.slice A1 (k + 1) c1).ownBlock = some b → (Value.slice A k c).ownBlock = some b ∨ wr.heap.size ≤ b)) (Flow.kept_of (fun _ _ _ c ⟨A1, c1, h1, h2, h3⟩ => ⟨A1, c1, h1.chg c id, own_chg h2 c (fun _ _ => id), h3⟩) (Flow.kz_cons (Flow.no_follow (by kernel_rfl)) (Flow.kz_cons (Flow.no_follow (by kernel_rfl)) (Flow.kz_cons (Flow.no_follow (by kernel_rfl)) Flow.kz_nil)))) (Flow.met_none rfl) (fun a W hH => ?_) ?_
          · have e0 := Flow.see_new 75 10 hH.sees (by kernel_rfl) (by kernel_rfl) rfl rfl
            obtain ⟨A11, c11, e1, q1⟩ := Flow.see_up 73 8 hH.sees (by kernel_rfl) (by kernel_rfl) rfl rfl
            have fa3 : (fun W => Blk W g13 192 (sigCells idx r (.slice Ao 67 co) (.slice A k c) ++ [Value.int .i64 (hgt o)]).toArray) W := hH.fact _ (List.mem_of_getElem? (i := 3) rfl) rfl
            refine wp_skip (reg_storeSlice rfl (by kernel_rfl) fa3 e0 e1 (by rw [sg36 idx r _ _ _ rL.out]; omega)) ?_
            obtain ⟨hO2, hob⟩ := q1
            refine ⟨_, rfl, Chg.grown (grown_set W g13 34 _) (by rintro k h; cases h; rfl), A11, c11, ?_, own_chg hO2 (Chg.grown (grown_set W g13 34 _) (Z := fun b => b = g13) (by rintro k h; cases h; rfl)) (fun b hb e => by have e2 : b = g13 := e; subst e2; rcases hob _ hb with h4 | h4; exact hog h4; omega), hob⟩
            have := fa3.set_ 34 (.slice A11 (k + 1) c11)
            rwa [sg_set34 idx r _ _ _ _ rL.out] at this
          refine Flow.pass_end [none, none, none, none, none, none, none, none, none, none, none, none, none, none, none, none, none, none, none, none, none, none, none, none, none, none, none, none, none, none, none, none, none, none, none, none, none, none, none, none, none, none, none, none, none, none, none, none, none, none, none, none, none, none, none, none, none, none, none, none, none, none, none, none, none, some 65, some 66, some 67, some 68, some 69, some 70, some 71, some 72, some 73, some 74, some 75, none, none, none, none, none, none, none] (by kernel_rfl) ?_
          intro f g w9 hB hfa hT hfg
          have F4 : (fun W => W.ownsRow w.heap.size 39 32 (.slice Ao 67 co) 67 (ncells no)) w9 := hfa _ (List.mem_of_getElem? (i := 4) rfl) (Nat.le_refl _)
          have F5 : (fun W => Blk W w.heap.size 102 zsig) w9 := hfa _ (List.mem_of_getElem? (i := 5) rfl) (Nat.le_refl _)
          obtain ⟨A2, _, hC2, hb2⟩ := hT 4 _ (by kernel_rfl) rfl
          obtain ⟨A3, c3, hS3, hO3, hob3⟩ := hT 11 _ (by kernel_rfl) rfl
          have nxt : Loop2 w g13 gx idx r l (hgt o) (k + 1) w9 := by
            refine ⟨⟨A2, cx - 32, ?_, ?_, ?_⟩, B9.drew.trans hB, F5, Ao, co, A3, c3, hS3, ?_, by rw [← HNO.out]; exact F4, ?_⟩
            · have : l.length - (36 + 32 * (67 + (k + 1))) = nx - 32 := by have := HNX.out; omega
              rw [this]; exact hb2
            · have := HNX.out; omega
            · have h1 := hC2 _ _ _ hRx
              have : l.length - (36 + 32 * (67 + (k + 1))) = nx - 32 := by have := HNX.out; omega
              rw [this]
              simp only [bcells, List.map_drop, List.drop_drop] at h1 ⊢
              rw [show 36 + 32 * (67 + (k + 1)) = 36 + 32 * (67 + k) + 32 by omega]
              exact h1
            · rw [nodesAt_succ, ncells_snoc, ← HNS.out, ← HND.out]
              exact hO3
            · intro b hb1 hb2
              rcases hob3 b hb2 with h4 | h4
              · exact hoo b hb1 h4
              · have := (own_some hOo hb1).2
                omega
          simp only [Reg.sel]
          clear hT hfg hfa F4 F5 hB hS3 hO3 hC2 hb2 hS hO hX hZ hRx hnd hob3 hOo hoo
          go_wp2
          go_roundw
          case rel => exact ⟨k + 1, by omega, by go_num, nxt⟩
          case measure => simp [intOf]; omega
        · obtain rfl : k = hgt o := by omega
          obtain ⟨_, B9, hZ, Ao, co, A, c, hS, hO, hOo, _⟩ := hrel
          have hk36 : Hid ((sigCells idx r (.slice Ao 67 co) (.slice A (hgt o) c) ++ [Value.int .i64 (hgt o)]).toArray.size = 36) := Lib.hid (by simp [sigCells, bcells_length, rL.out])
          go_wp2_with ((with_reducible refine at_load 192 ?_); refine wpList_loadAll wr rfl 192 _ rfl g13 192 _ hS _ rfl Tryz.underlying192 rfl (by rw [hk36.out]; exact inf36) ?_)
          have hidx : idx < 4294967296 := by have := rdNum_lt l 0 4 false; have := HI.out; omega
          refine (may_any idx r rL.out Ao A 67 co (hgt o) c (hgt o) hidx hh wr).mono ?_
          rintro e W4 ⟨rfl, hB4⟩
          have hS := hS.below hB4 hS.lt
          have hZ := hZ.below hB4 hZ.lt
          have r1 := own_chg hOo (Chg.of_ext (Z := fun _ => False) hB4) (fun _ _ => id)
          have r2 := own_chg hO (Chg.of_ext (Z := fun _ => False) hB4) (fun _ _ => id)
          have l1 := Flow.own_le hOo
          have l2 := Flow.own_le hO
          have B4 := B9.trans (hB4.mono B9.size)
          have hs4 := hB4.size
          have hz35 : Hid (zsig.size = 35) := Lib.hid (by kernel_rfl)
          have hk35 : Hid ((sigCells idx r (.slice Ao 67 co) (.slice A (hgt o) c)).toArray.size = 35) := Lib.hid (by simp [sigCells, bcells_length, rL.out])
          clear hO hOo hB4 B9 hk36
          by_cases hb : idx < 2 ^ hgt o
          · have em : may 67 (hgt o) idx (hgt o) = true := by simp [may, hb]
            rw [em]
            have hr0 : W4.rangeAt g13 0 (sigCells idx r (.slice Ao 67 co) (.slice A (hgt o) c)) := fun j v hv => by
              rw [hS.cell, Nat.zero_add, List.getElem?_toArray, List.getElem?_append_left (List.getElem?_eq_some_iff.1 hv).1]; exact hv
            go_wp2_with (first
              | ((with_reducible refine at_load 102 ?_); refine wpList_load_mid rfl 102 _ rfl g13 0 rfl (sigCells idx r (.slice Ao 67 co) (.slice A (hgt o) c)) _ hr0 Tryz.underlying102 rfl (by have := hk35.out; rw [List.size_toArray] at this; rw [this]; exact inf35) ?_)
              | ((with_reducible refine at_store 102 ?_); refine wpList_storeAll W4 rfl 102 _ _ rfl w.heap.size 102 _ (sigCells idx r (.slice Ao 67 co) (.slice A (hgt o) c)).toArray hZ rfl rfl (by rw [hk35.out, hz35.out]) (by rw [hk35.out]; exact inf35) (sg35_one _ _ _ _ rfl rfl) ?_; intro W5 hb5 hg5 hs5))
            refine bodyPost_ret (results_cell_tmp rfl _ _ w.heap.size _ _ _ _ rfl hb5 Tryz.underlying102 rfl (by rw [hk35.out]; exact inf35)) rfl ?_
            unfold SigEnd
            rw [if_pos hb]
            refine ⟨Ao, co, A, c, rfl, l1, l2, ?_, ?_, grown_below B4 hg5 B4.size (Nat.le_refl _)⟩
            · exact Rd.of_own (own_chg r1 (Chg.grown (Z := fun b => b = w.heap.size) hg5 (by rintro k h; cases h; rfl)) (fun b hb e => own_ne r1 hZ (by decide) hb e))
            · exact Rd.of_own (own_chg r2 (Chg.grown (Z := fun b => b = w.heap.size) hg5 (by rintro k h; cases h; rfl)) (fun b hb e => own_ne r2 hZ (by decide) hb e))
          · have em : may 67 (hgt o) idx (hgt o) = false := by simp [may, hb]
            rw [em]
            go_wp2_with ((with_reducible refine at_store 102 ?_); refine wpList_storeAll W4 rfl 102 _ _ rfl w.heap.size 102 _ zsig hZ rfl rfl rfl (by rw [hz35.out]; exact inf35) (by decide) ?_; intro W5 hb5 hg5 hs5)
            refine bodyPost_ret (results_cell_tmp rfl _ _ w.heap.size _ _ _ _ rfl hb5 Tryz.underlying102 rfl (by rw [hz35.out]; exact inf35)) rfl ?_
            unfold SigEnd
            rw [if_neg hb]
            exact ⟨rfl, grown_below B4 hg5 B4.size (Nat.le_refl _)⟩
end Go.Proofs.YtipdmhppadapkaaGreatDoor
/-
  Walk: portreeveref04.SigOf of bytes of the right length.
-/
namespace Go.Proofs.YtipdmhppadapkaaGreatDoor
open Go.RowKit

def RLoop (w : World) (g idx : Nat) (r l : List UInt8) (k : Nat) (wr : World) : Prop :=
  Below w.heap.size w wr ∧ Blk wr w.heap.size 102 zsig ∧ g < wr.heap.size ∧
  ∃ Ao co A c, Blk wr g 102 (sigCells idx r (.slice Ao (min k 67) co) (.slice A (k - 67) c)).toArray ∧ wr.ownsRow w.heap.size 39 32 (.slice Ao (min k 67) co) (min k 67) (ncells (nodesAt l 0 (min k 67))) ∧
    wr.ownsRow w.heap.size 39 32 (.slice A (k - 67) c) (k - 67) (ncells (nodesAt l 67 (k - 67))) ∧ ∀ b, (Value.slice Ao (min k 67) co).ownBlock = some b → ¬ (Value.slice A (k - 67) c).ownBlock = some b
theorem sg35 (idx : Nat) (r : List UInt8) (v1 v2 : Value) (hr : r.length = 32) : (sigCells idx r v1 v2).toArray.size = 35 := by simp [sigCells, bcells_length, hr]
theorem sg35_set33 (idx : Nat) (r : List UInt8) (v1 v2 v : Value) (hr : r.length = 32) : (sigCells idx r v1 v2).toArray.setIfInBounds 33 v = (sigCells idx r v v2).toArray := by
  have hl : (bcells r).length = 32 := by rw [bcells_length]; exact hr
  simp [sigCells, hl]
theorem sg35_set34 (idx : Nat) (r : List UInt8) (v1 v2 v : Value) (hr : r.length = 32) : (sigCells idx r v1 v2).toArray.setIfInBounds 34 v = (sigCells idx r v1 v).toArray := by
  have hl : (bcells r).length = 32 := by rw [bcells_length]; exact hr
  simp [sigCells, hl]
theorem sig_cell35 {w : World} {g : Nat} {t : TypeId} {i : Nat} {r : List UInt8} {v1 v2 : Value} (hr : r.length = 32) (h : Blk w g t (sigCells i r v1 v2).toArray) :
    w.cell? ⟨g, 0, none⟩ = some (.int .u32 i) ∧ w.cell? ⟨g, 33, none⟩ = some v1 ∧ w.cell? ⟨g, 34, none⟩ = some v2 := by
  have hl : (bcells r).length = 32 := by rw [bcells_length]; exact hr
  refine ⟨?_, ?_, ?_⟩ <;> rw [h.cell] <;> simp [sigCells, hl]
theorem shl_one (h : Nat) (hh : h ≤ 20) : IntKind.u64.wrap (2 ^ h) = ((2 ^ h : Nat) : Int) := by
  have : (2 : Nat) ^ h ≤ 2 ^ 20 := Nat.pow_le_pow_right (by omega) hh
  rw [IntWalk.u64_in _ (by constructor; exact Int.pow_nonneg (by omega); have : ((2 : Int) ^ h) = ((2 ^ h : Nat) : Int) := by rw [Int.natCast_pow]; rfl
                           omega)]
  rw [Int.natCast_pow]; rfl

set_option maxRecDepth 100000 in
set_option maxHeartbeats 8000000 in
theorem rSigOf_in (A : Option Addr) (c0 : Nat) (l : List UInt8) (o : Nat) (w : World) (h : Rd w w.heap.size 1 A l.length (bcells l)) (hc : l.length ≤ c0) (hk : isKind o = true) (hl : l.length = 36 + 32 * (67 + hgt o))
    (idx : Nat) (hidx : idx = rdNum l 0 4 false) (r : List UInt8) (hr : r = (l.drop 4).take 32) :
    Calls Tryz.prog 44 #[.slice A l.length c0, .int .u32 o] w (SigEnd w l o idx r) := by
  have hh : hgt o ≤ 20 := by unfold hgt; split <;> (try split) <;> (try split) <;> omega
  have rL : Hid (r.length = 32) := Lib.hid (by rw [hr]; simp; omega)
  have hi32 : idx < 4294967296 := by rw [hidx]; exact rdNum_lt l 0 4 false
  have HR := Lib.hid hr
  have HI := Lib.hid hidx
  have HL := Lib.hid hl
  have hl36 : 36 ≤ l.length := by omega
  have hlt : l.length ≤ 1000000 := by omega
  have hlen : (36 : Int) + 32 * (67 + (hgt o : Nat)) = (l.length : Nat) := by omega
  have hb35 := fun W => run_sig35 idx r W rL.out
  have hw := shl_one (hgt o) hh
  obtain ⟨p2, hp2⟩ : ∃ p2, p2 = 2 ^ hgt o := ⟨_, rfl⟩
  rw [← hp2] at hw
  have HP := Lib.hid hp2
  clear hr hidx hl hp2
  go_enter Tryz.func44, Tryz.ntmps44
  go_wp2_with fail
  change Calls _ _ _ (w.alloc (.cells zsig 102)) _
  have B0 : Below w.heap.size w (w.alloc (.cells zsig 102)) := (Below.refl _ _).alloc (Nat.le_refl _) _
  have hb0 := Blk.new w 102 zsig
  have s0 : Hid ((w.alloc (.cells zsig 102)).heap.size = w.heap.size + 1) := Lib.hid (by simp)
  generalize w.alloc (.cells zsig 102) = W0 at *
  refine (rHeight_any o W0).mono ?_
  rintro e w' ⟨rfl, rfl⟩
  rw [hk]
  go_wp2_with fail
  refine (number_any A l.length c0 0 false l W0 4 ((h.below B0).more B0.size) hlt (by omega) (by omega)).mono ?_
  rintro e w' ⟨rfl, rfl⟩
  rw [← HI.out]
  by_cases hb : idx < p2
  · have hbi : ¬ (p2 : Int) ≤ (idx : Int) := by omega
    have h4 : ¬ c0 = 4 := by omega
    have c36 : (36 : Int) ≤ (c0 : Int) := by omega
    have hrr : Rd W0 w.heap.size 1 (A.map fun x => ⟨x.block, x.off + 4, none⟩) 32 (bcells r) := by
      have := (h.at_ 4 32 (by omega) (by omega)).below B0
      rw [HR.out]; exact this
    obtain ⟨rb, ro, hA4, _, hrange⟩ := hrr.range (by omega)
    have hl32 : Hid ((bcells r).length = 32) := Lib.hid (by rw [bcells_length]; exact rL.out)
    have harr := fun W => run_arrayAt (P := Tryz.prog) W Tryz.underlying39 (some ⟨rb, ro, none⟩) 32 (c0 - 4) (Nat.le_refl _)
    have hsg := Blk.new W0 102 zsig
    have hk35 : Hid ((sigCells idx r (.slice none 0 0) (.slice none 0 0)).toArray.size = 35) := Lib.hid (by simp [sigCells, bcells_length, rL.out])
    have hz35 : Hid (zsig.size = 35) := Lib.hid (by kernel_rfl)
    have hcv : IntKind.u32.wrap (idx : Int) = (idx : Int) := IntWalk.u32_in _ (by omega)
    clear hrr
    go_wp2_with (first
      | ((with_reducible refine at_load 39 ?_); refine wpList_load_mid rfl 39 _ rfl rb ro rfl (bcells r) _ hrange Tryz.underlying39 rfl (by rw [hl32.out]; exact infNode) ?_)
      | ((with_reducible refine at_build 102 ?_); refine wpList_buildV W0 rfl #[(0, .int .u32 idx), (1, .agg (bcells r).toArray)] rfl ?_ (hb35 W0) ?_; (simp [Act.eval, Act.put]))
      | ((with_reducible refine at_store 102 ?_); refine wpList_storeAll _ rfl 102 _ _ rfl W0.heap.size 102 _ (sigCells idx r (.slice none 0 0) (.slice none 0 0)).toArray hsg rfl rfl (by rw [hk35.out, hz35.out]) (by rw [hk35.out]; exact inf35) (sg35_one _ _ _ _ rfl rfl) ?_; intro W3 hb3 hg3 hs3))
    have HS0 := s0.out
    have hg1 : w.heap.size < W0.heap.size := by omega
    have B3 := grown_below (B0.alloc B0.size (.cells zsig 102)) hg3 (by simp; omega) B0.size
    have hz3 := (hb0.alloc (.cells zsig 102)).grown hg3 (by simp; omega)
    have hk3 : W0.heap.size < W3.heap.size := by rw [hs3]; simp
    have start : RLoop w W0.heap.size idx r l 0 W3 := ⟨B3, hz3, hk3, none, 0, none, 0, hb3, World.ownsRow_nil _ _ _ _, World.ownsRow_nil _ _ _ _, fun b h => by cases h⟩
    have hgzw : ¬ W0.heap.size = w.heap.size := by omega
    have hg0 : w.heap.size ≤ W0.heap.size := by omega
    generalize W0.heap.size = g at *
    clear hsg hrange hg3 hs3 B3 hz3 hk3 hb3 hb0 s0 HS0 B0 harr hb35 hw hcv
    go_loopw [11] (fun i wr => ∃ k : Nat, k ≤ 67 + hgt o ∧ i = .int .i64 k ∧ RLoop w g idx r l k wr) (fun i _ => 100 - (intOf i).toNat)
    case atStart => exact ⟨0, by omega, rfl, start⟩
    case round =>
      obtain ⟨k, hkk, rfl, hB9, hZ, hgl, Ao, co, A2, c2, hS, hO, hO2, hoo⟩ := hrel
      by_cases hlt : k < 67 + hgt o
      · have hnd0 := ((h.at_ (36 + 32 * k) 32 (by have := HL.out; omega) (by omega)).below hB9)
        obtain ⟨nd, hnde⟩ : ∃ nd, nd = nodeAt l k := ⟨_, rfl⟩
        have e1 : (l.drop (36 + 32 * k)).take 32 = nd := by rw [hnde, nodeAt]
        rw [e1] at hnd0
        have ndL : Hid (nd.length = 32) := Lib.hid (by rw [hnde]; exact nodeAt_length l k (by have := HL.out; omega))
        obtain ⟨rb, ro, hA5, _, hrange⟩ := hnd0.range (by omega)
        have hlnd : Hid ((bcells nd).length = 32) := Lib.hid (by rw [bcells_length]; exact ndL.out)
        have hck : ¬ c0 = 36 + 32 * k := by have := HL.out; omega
        have c68 : (68 : Int) + 32 * (k : Int) ≤ (c0 : Int) := by have := HL.out; omega
        have HND := Lib.hid hnde
        clear hnde e1 hnd0
        have efn : (fun x : Addr => (⟨x.block, x.off + (36 + 32 * k), none⟩ : Addr)) = fun x => x.add (36 + 32 * k) := by
          funext x; unfold Addr.add; rw [if_neg (by omega)]
        rw [efn] at hA5
        have hsub : 68 + 32 * k - (36 + 32 * k) = 32 := by omega
        have harr := fun W => run_arrayAt (P := Tryz.prog) W Tryz.underlying39 (some ⟨rb, ro, none⟩) 32 (c0 - (36 + 32 * k)) (Nat.le_refl _)
        have hnb := Blk.new wr 39 (bcells zeroNode0).toArray
        have hz32 : Hid ((bcells zeroNode0).toArray.size = 32) := Lib.hid rfl
        clear efn
        have hgz : ¬ g = w.heap.size := fun e => hgzw e
        by_cases h67 : k < 67
        · have em : min k 67 = k := by omega
          have em2 : k - 67 = 0 := by omega
          simp only [em, em2] at hS hO hO2 hoo
          clear em em2
          have hog : ¬ (Value.slice Ao k co).ownBlock = some g := fun e => own_ne hO hS (by decide) e rfl
          have hoz : ¬ (Value.slice Ao k co).ownBlock = some w.heap.size := fun e => own_ne hO hZ (by decide) e rfl
          have hog2 : ¬ (Value.slice A2 0 c2).ownBlock = some g := fun e => own_ne hO2 hS (by decide) e rfl
          have hw1 : w.heap.size ≤ wr.heap.size := hB9.size
          have hlo := fun b hb => (own_some hO (b := b) hb).2
          have hlo2 := fun b hb => (own_some hO2 (b := b) hb).2
          have HLO := Lib.hid hlo
          have HLO2 := Lib.hid hlo2
          have hzl := hZ.lt
          clear hlo hlo2
          have hk100 : k ≤ 100000 := by omega
          go_wp2_with (first
            | ((with_reducible refine at_load 39 ?_); refine wpList_load_mid rfl 39 _ rfl rb ro rfl (bcells nd) _ hrange Tryz.underlying39 rfl (by rw [hlnd.out]; exact infNode) ?_)
            | ((with_reducible refine at_store 39 ?_); refine wpList_storeAll _ rfl 39 _ _ rfl wr.heap.size 39 _ (bcells nd).toArray hnb rfl rfl (by rw [List.size_toArray, hlnd.out]; rfl) (by rw [List.size_toArray, hlnd.out]; exact infNode) (by simpa using bcells_one nd) ?_; intro W3 hb3 hg3 hs3;
                have hC3 := (Chg.of_ext (Z := fun b => b = wr.heap.size) ((Ext.refl wr).alloc (.cells (bcells zeroNode0).toArray 39))).trans (Chg.grown hg3 (by rintro k h; cases h; rfl));
                have hS3 := hS.chg hC3 (by show ¬ _ = _; omega); have c33 := (sig_cell35 rL.out hS3).2.1; have hO3 := own_chg hO hC3 (fun b hb e => by have := HLO.out b hb; have e2 : b = wr.heap.size := e; omega); clear hs3)
            | ((with_reducible refine at_load 39 ?_); refine wpList_loadAll W3 rfl 39 _ rfl wr.heap.size 39 (bcells nd).toArray hb3 _ rfl Tryz.underlying39 rfl (by rw [List.size_toArray, hlnd.out]; exact infNode) ?_)
            | ((with_reducible refine at_buildSlice 100 ?_); refine wpList_runV rfl (Flow.reg_buildSlice #[(0, .agg (bcells nd).toArray)] rfl ?_ (run_node1 W3 nd ndL.out)) ?_; (simp [Act.eval, Act.put]))
            | ((with_reducible refine at_append ?_); refine wpList_appNode W3 rfl _ _ rfl w.heap.size Ao k co (nodesAt l 0 k) nd ndL.out rfl hO3 rfl hk100 (Nat.le_trans hw1 hC3.size) ?_; intro A5 c5 W5 hO5 hC5 hB5 hob5; have hS5 := hS3.chg hC5 hog)
            | ((with_reducible refine at_store 100 ?_); refine wpList_runS rfl (reg_storeSlice rfl (by kernel_rfl) hS5 rfl rfl (by rw [sg35 _ _ _ _ rL.out]; omega)) ?_))
          have hZ5 := (hZ.chg hC3 (by show ¬ _ = _; omega)).chg hC5 hoz
          have B5 := (hB9.trans (hC3.below (n := w.heap.size) (fun j e => by have e2 : j = wr.heap.size := e; omega) hw1)).trans hB5
          have hO6 := own_chg hO5 (Chg.grown (Z := fun b => b = g) (grown_set W5 g 33 (.slice A5 (k + 1) c5)) (by rintro j h; cases h; rfl)) (fun b hb e => own_ne hO5 hS5 (by decide) hb e)
          have hO7 := own_chg (own_chg (own_chg hO2 hC3 (fun b hb e => by have := HLO2.out b hb; have e2 : b = wr.heap.size := e; omega)) hC5 (fun b hb e => hoo b e hb)) (Chg.grown (Z := fun b => b = g) (grown_set W5 g 33 (.slice A5 (k + 1) c5)) (by rintro j h; cases h; rfl)) (fun b hb e => hog2 (e ▸ hb))
          have hS6 := hS5.set_ 33 (.slice A5 (k + 1) c5)
          rw [sg35_set33 _ _ _ _ _ rL.out] at hS6
          have nxt : RLoop w g idx r l (k + 1) (W5.setCell ⟨g, 33, none⟩ (.slice A5 (k + 1) c5)) := by
            refine ⟨B5.setCell (p := ⟨g, 33, none⟩) hg0 _, hZ5.far (fun e => hgz e.symm) _, by simpa using hS5.lt, A5, c5, A2, c2, ?_, ?_, ?_, ?_⟩
            · rw [show min (k + 1) 67 = k + 1 by omega, show k + 1 - 67 = 0 by omega]; exact hS6
            · rw [show min (k + 1) 67 = k + 1 by omega, nodesAt_succ, Nat.zero_add, ← HND.out]; exact hO6
            · rw [show k + 1 - 67 = 0 by omega]; exact hO7
            · rw [show min (k + 1) 67 = k + 1 by omega, show k + 1 - 67 = 0 by omega]
              intro b hb1 hb2
              rcases hob5 b hb1 with h5 | h5
              · exact hoo b h5 hb2
              · have := HLO2.out b hb2
                have := hC3.size
                omega
          clear hZ5 B5 hO6 hO7 hS6 hO5 hC5 hB5 hob5 hS5 hC3 hS3 c33 hO3 hb3 hg3 hS hO hO2 hoo hZ hB9
          go_roundw
          case rel => exact ⟨k + 1, by omega, by go_num, nxt⟩
          case measure => simp [intOf]; omega
        · have em : min k 67 = 67 := by omega
          obtain ⟨q, rfl⟩ : ∃ q, k = 67 + q := ⟨k - 67, by omega⟩
          have em2 : 67 + q - 67 = q := by omega
          simp only [em, em2] at hS hO hO2 hoo
          clear em em2
          have hog : ¬ (Value.slice A2 q c2).ownBlock = some g := fun e => own_ne hO2 hS (by decide) e rfl
          have hoz : ¬ (Value.slice A2 q c2).ownBlock = some w.heap.size := fun e => own_ne hO2 hZ (by decide) e rfl
          have hog2 : ¬ (Value.slice Ao 67 co).ownBlock = some g := fun e => own_ne hO hS (by decide) e rfl
          have hw1 : w.heap.size ≤ wr.heap.size := hB9.size
          have hlo := fun b hb => (own_some hO2 (b := b) hb).2
          have hlo2 := fun b hb => (own_some hO (b := b) hb).2
          have HLO := Lib.hid hlo
          have HLO2 := Lib.hid hlo2
          have hzl := hZ.lt
          clear hlo hlo2
          have hk100 : q ≤ 100000 := by omega
          go_wp2_with (first
            | ((with_reducible refine at_load 39 ?_); refine wpList_load_mid rfl 39 _ rfl rb ro rfl (bcells nd) _ hrange Tryz.underlying39 rfl (by rw [hlnd.out]; exact infNode) ?_)
            | ((with_reducible refine at_store 39 ?_); refine wpList_storeAll _ rfl 39 _ _ rfl wr.heap.size 39 _ (bcells nd).toArray hnb rfl rfl (by rw [List.size_toArray, hlnd.out]; rfl) (by rw [List.size_toArray, hlnd.out]; exact infNode) (by simpa using bcells_one nd) ?_; intro W3 hb3 hg3 hs3;
                have hC3 := (Chg.of_ext (Z := fun b => b = wr.heap.size) ((Ext.refl wr).alloc (.cells (bcells zeroNode0).toArray 39))).trans (Chg.grown hg3 (by rintro k h; cases h; rfl));
                have hS3 := hS.chg hC3 (by show ¬ _ = _; omega); have c34 := (sig_cell35 rL.out hS3).2.2; have hO3 := own_chg hO2 hC3 (fun b hb e => by have := HLO.out b hb; have e2 : b = wr.heap.size := e; omega); clear hs3)
            | ((with_reducible refine at_load 39 ?_); refine wpList_loadAll W3 rfl 39 _ rfl wr.heap.size 39 (bcells nd).toArray hb3 _ rfl Tryz.underlying39 rfl (by rw [List.size_toArray, hlnd.out]; exact infNode) ?_)
            | ((with_reducible refine at_buildSlice 100 ?_); refine wpList_runV rfl (Flow.reg_buildSlice #[(0, .agg (bcells nd).toArray)] rfl ?_ (run_node1 W3 nd ndL.out)) ?_; (simp [Act.eval, Act.put]))
            | ((with_reducible refine at_append ?_); refine wpList_appNode W3 rfl _ _ rfl w.heap.size A2 q c2 (nodesAt l 67 q) nd ndL.out rfl hO3 rfl hk100 (Nat.le_trans hw1 hC3.size) ?_; intro A5 c5 W5 hO5 hC5 hB5 hob5; have hS5 := hS3.chg hC5 hog)
            | ((with_reducible refine at_store 100 ?_); refine wpList_runS rfl (reg_storeSlice rfl (by kernel_rfl) hS5 rfl rfl (by rw [sg35 _ _ _ _ rL.out]; omega)) ?_))
          have hZ5 := (hZ.chg hC3 (by show ¬ _ = _; omega)).chg hC5 hoz
          have B5 := (hB9.trans (hC3.below (n := w.heap.size) (fun j e => by have e2 : j = wr.heap.size := e; omega) hw1)).trans hB5
          have hO6 := own_chg hO5 (Chg.grown (Z := fun b => b = g) (grown_set W5 g 34 (.slice A5 (q + 1) c5)) (by rintro j h; cases h; rfl)) (fun b hb e => own_ne hO5 hS5 (by decide) hb e)
          have hO7 := own_chg (own_chg (own_chg hO hC3 (fun b hb e => by have := HLO2.out b hb; have e2 : b = wr.heap.size := e; omega)) hC5 (fun b hb e => hoo b hb e)) (Chg.grown (Z := fun b => b = g) (grown_set W5 g 34 (.slice A5 (q + 1) c5)) (by rintro j h; cases h; rfl)) (fun b hb e => hog2 (e ▸ hb))
          have hS6 := hS5.set_ 34 (.slice A5 (q + 1) c5)
          rw [sg35_set34 _ _ _ _ _ rL.out] at hS6
          have nxt : RLoop w g idx r l (67 + q + 1) (W5.setCell ⟨g, 34, none⟩ (.slice A5 (q + 1) c5)) := by
            refine ⟨B5.setCell (p := ⟨g, 34, none⟩) hg0 _, hZ5.far (fun e => hgz e.symm) _, by simpa using hS5.lt, Ao, co, A5, c5, ?_, ?_, ?_, ?_⟩
            · rw [show min (67 + q + 1) 67 = 67 by omega, show 67 + q + 1 - 67 = q + 1 by omega]; exact hS6
            · rw [show min (67 + q + 1) 67 = 67 by omega]; exact hO7
            · rw [show 67 + q + 1 - 67 = q + 1 by omega, nodesAt_succ, ← HND.out]; exact hO6
            · rw [show min (67 + q + 1) 67 = 67 by omega, show 67 + q + 1 - 67 = q + 1 by omega]
              intro b hb1 hb2
              rcases hob5 b hb2 with h5 | h5
              · exact hoo b hb1 h5
              · have := HLO2.out b hb1
                have := hC3.size
                omega
          clear hZ5 B5 hO6 hO7 hS6 hO5 hC5 hB5 hob5 hS5 hC3 hS3 c34 hO3 hb3 hg3 hS hO hO2 hoo hZ hB9
          go_roundw
          case rel => exact ⟨67 + q + 1, by omega, by go_num, nxt⟩
          case measure => simp [intOf]; omega
      · obtain rfl : k = 67 + hgt o := by omega
        simp only [show min (67 + hgt o) 67 = 67 by omega, show 67 + hgt o - 67 = hgt o by omega] at hS hO hO2 hoo
        have r1 := hO
        have r2 := hO2
        have l1 := Flow.own_le hO
        have l2 := Flow.own_le hO2
        have hk35' : Hid ((sigCells idx r (.slice Ao 67 co) (.slice A2 (hgt o) c2)).toArray.size = 35) := Lib.hid (by simp [sigCells, bcells_length, rL.out])
        have hs9 := hB9.size
        clear hO hO2 hoo
        go_wp2_with (first
          | ((with_reducible refine at_load 102 ?_); refine wpList_loadAll wr rfl 102 _ rfl g 102 _ hS _ rfl Tryz.underlying102 rfl (by rw [hk35'.out]; exact inf35) ?_)
          | ((with_reducible refine at_store 102 ?_); refine wpList_storeAll wr rfl 102 _ _ rfl w.heap.size 102 _ (sigCells idx r (.slice Ao 67 co) (.slice A2 (hgt o) c2)).toArray hZ rfl rfl (by rw [hk35'.out, hz35.out]) (by rw [hk35'.out]; exact inf35) (sg35_one _ _ _ _ rfl rfl) ?_; intro W5 hb5 hg5 hs5))
        refine bodyPost_ret (results_cell_tmp rfl _ _ w.heap.size _ _ _ _ rfl hb5 Tryz.underlying102 rfl (by rw [hk35'.out]; exact inf35)) rfl ?_
        unfold SigEnd
        rw [if_pos (by rw [← HP.out]; exact hb)]
        refine ⟨Ao, co, A2, c2, rfl, l1, l2, ?_, ?_, grown_below hB9 hg5 hB9.size (Nat.le_refl _)⟩
        · exact Rd.of_own (own_chg r1 (Chg.grown (Z := fun b => b = w.heap.size) hg5 (by rintro k h; cases h; rfl)) (fun b hb e => own_ne r1 hZ (by decide) hb e))
        · exact Rd.of_own (own_chg r2 (Chg.grown (Z := fun b => b = w.heap.size) hg5 (by rintro k h; cases h; rfl)) (fun b hb e => own_ne r2 hZ (by decide) hb e))
  · have hbi : (p2 : Int) ≤ (idx : Int) := by omega
    have hz35 : Hid (zsig.size = 35) := Lib.hid (by kernel_rfl)
    have hs0 := s0.out
    clear s0
    have HS0 := Lib.hid hs0
    clear hs0
    go_wp2_with ((with_reducible refine at_store 102 ?_); refine wpList_storeAll W0 rfl 102 _ _ rfl w.heap.size 102 _ zsig hb0 rfl rfl rfl (by rw [hz35.out]; exact inf35) (by decide) ?_; intro W5 hb5 hg5 hs5)
    refine bodyPost_ret (results_cell_tmp rfl _ _ w.heap.size _ _ _ _ rfl hb5 Tryz.underlying102 rfl (by rw [hz35.out]; exact inf35)) rfl ?_
    unfold SigEnd
    rw [if_neg (by rw [← HP.out]; exact hb)]
    exact ⟨rfl, grown_below B0 hg5 B0.size (Nat.le_refl _)⟩
end Go.Proofs.YtipdmhppadapkaaGreatDoor
/-
  Walks: SigOf of any bytes, both; portreeveref04.SameNodes and SameSig.
-/
namespace Go.Proofs.YtipdmhppadapkaaGreatDoor
open Go.RowKit

def sigOk (l : List UInt8) (o : Nat) : Bool := isKind o && l.length == 36 + 32 * (67 + hgt o) && decide (rdNum l 0 4 false < 2 ^ hgt o)
def sigVal (l : List UInt8) (o : Nat) : Sg := if sigOk l o then ⟨rdNum l 0 4 false, (l.drop 4).take 32, nodesAt l 0 67, nodesAt l 67 (hgt o)⟩ else ⟨0, zeroNode0, [], []⟩
def sigErr (l : List UInt8) (o : Nat) : Int := if isKind o = false then 80 else if sigOk l o then 0 else 81
/-- a signature in memory of the call's own -/
def SigRet (w : World) (g : Sg) (x : Int) (e : Ending) (w' : World) : Prop := ∃ A1 c1 A2 c2, e = .returned (.tuple #[.agg (sigCells g.i g.r (.slice A1 g.ots.length c1) (.slice A2 g.auth.length c2)).toArray, .int .i64 x]) ∧
  g.ots.length ≤ c1 ∧ g.auth.length ≤ c2 ∧ Rd w' w'.heap.size 32 A1 g.ots.length (ncells g.ots) ∧ Rd w' w'.heap.size 32 A2 g.auth.length (ncells g.auth) ∧ Below w.heap.size w w'

section
variable (A : Option Addr) (n c0 : Nat) (l : List UInt8) (o : Nat) (w : World)
set_option maxRecDepth 100000 in
set_option maxHeartbeats 2000000 in
theorem mSigOf_kind (hk : isKind o = false) :
    Calls Tryz.prog 77 #[.slice A n c0, .int .u32 o] w fun e w' => e = .returned (.tuple #[.agg zsig, .int .i64 80]) ∧ Below w.heap.size w w' := by
  have hz35 : Hid (zsig.size = 35) := Lib.hid (by kernel_rfl)
  go_enter Tryz.func77, Tryz.ntmps77
  go_wp2_with fail
  change Calls _ _ _ (w.alloc (.cells zsig 102)) _
  have B0 : Below w.heap.size w (w.alloc (.cells zsig 102)) := (Below.refl _ _).alloc (Nat.le_refl _) _
  have hb0 := Blk.new w 102 zsig
  generalize w.alloc (.cells zsig 102) = W0 at *
  refine (mHeight_any o W0).mono ?_
  rintro e w' ⟨rfl, rfl⟩
  rw [hk]
  go_wp2_with ((with_reducible refine at_store 102 ?_); refine wpList_storeAll W0 rfl 102 _ _ rfl w.heap.size 102 _ zsig hb0 rfl rfl rfl (by rw [hz35.out]; exact inf35) (by decide) ?_; intro W5 hb5 hg5 hs5)
  refine bodyPost_ret (results_cell_tmp rfl _ _ w.heap.size _ _ _ _ rfl hb5 Tryz.underlying102 rfl (by rw [hz35.out]; exact inf35)) rfl ?_
  exact ⟨rfl, grown_below B0 hg5 B0.size (Nat.le_refl _)⟩
set_option maxRecDepth 100000 in
set_option maxHeartbeats 2000000 in
theorem rSigOf_kind (hk : isKind o = false) :
    Calls Tryz.prog 44 #[.slice A n c0, .int .u32 o] w fun e w' => e = .returned (.tuple #[.agg zsig, .int .i64 80]) ∧ Below w.heap.size w w' := by
  have hz35 : Hid (zsig.size = 35) := Lib.hid (by kernel_rfl)
  go_enter Tryz.func44, Tryz.ntmps44
  go_wp2_with fail
  change Calls _ _ _ (w.alloc (.cells zsig 102)) _
  have B0 : Below w.heap.size w (w.alloc (.cells zsig 102)) := (Below.refl _ _).alloc (Nat.le_refl _) _
  have hb0 := Blk.new w 102 zsig
  generalize w.alloc (.cells zsig 102) = W0 at *
  refine (rHeight_any o W0).mono ?_
  rintro e w' ⟨rfl, rfl⟩
  rw [hk]
  go_wp2_with ((with_reducible refine at_store 102 ?_); refine wpList_storeAll W0 rfl 102 _ _ rfl w.heap.size 102 _ zsig hb0 rfl rfl rfl (by rw [hz35.out]; exact inf35) (by decide) ?_; intro W5 hb5 hg5 hs5)
  refine bodyPost_ret (results_cell_tmp rfl _ _ w.heap.size _ _ _ _ rfl hb5 Tryz.underlying102 rfl (by rw [hz35.out]; exact inf35)) rfl ?_
  exact ⟨rfl, grown_below B0 hg5 B0.size (Nat.le_refl _)⟩
set_option maxRecDepth 100000 in
set_option maxHeartbeats 2000000 in
theorem mSigOf_len (hk : isKind o = true) (hn : ¬ n = 36 + 32 * (67 + hgt o)) :
    Calls Tryz.prog 77 #[.slice A n c0, .int .u32 o] w fun e w' => e = .returned (.tuple #[.agg zsig, .int .i64 81]) ∧ Below w.heap.size w w' := by
  have hz35 : Hid (zsig.size = 35) := Lib.hid (by kernel_rfl)
  have hz : ¬ (n : Int) = (sigSize o : Nat) := by simp [sigSize, hk]; omega
  go_enter Tryz.func77, Tryz.ntmps77
  go_wp2_with fail
  change Calls _ _ _ (w.alloc (.cells zsig 102)) _
  have B0 : Below w.heap.size w (w.alloc (.cells zsig 102)) := (Below.refl _ _).alloc (Nat.le_refl _) _
  have hb0 := Blk.new w 102 zsig
  generalize w.alloc (.cells zsig 102) = W0 at *
  refine (mHeight_any o W0).mono ?_
  rintro e w' ⟨rfl, rfl⟩
  rw [hk]
  go_wp2_with fail
  refine (mSize_any o W0).mono ?_
  rintro e w' ⟨rfl, rfl⟩
  rw [hk]
  go_wp2_with ((with_reducible refine at_store 102 ?_); refine wpList_storeAll W0 rfl 102 _ _ rfl w.heap.size 102 _ zsig hb0 rfl rfl rfl (by rw [hz35.out]; exact inf35) (by decide) ?_; intro W5 hb5 hg5 hs5)
  refine bodyPost_ret (results_cell_tmp rfl _ _ w.heap.size _ _ _ _ rfl hb5 Tryz.underlying102 rfl (by rw [hz35.out]; exact inf35)) rfl ?_
  exact ⟨rfl, grown_below B0 hg5 B0.size (Nat.le_refl _)⟩
set_option maxRecDepth 100000 in
set_option maxHeartbeats 2000000 in
theorem rSigOf_len (h : Rd w w.heap.size 1 A n (bcells l)) (hn0 : n ≤ 1000000) (hk : isKind o = true) (hn : ¬ n = 36 + 32 * (67 + hgt o)) :
    Calls Tryz.prog 44 #[.slice A n c0, .int .u32 o] w fun e w' => e = .returned (.tuple #[.agg zsig, .int .i64 81]) ∧ Below w.heap.size w w' := by
  have hz35 : Hid (zsig.size = 35) := Lib.hid (by kernel_rfl)
  have hh : hgt o ≤ 20 := by unfold hgt; split <;> (try split) <;> (try split) <;> omega
  have hz : ¬ (n : Int) = 36 + 32 * (67 + (hgt o : Nat)) := by omega
  go_enter Tryz.func44, Tryz.ntmps44
  go_wp2_with fail
  change Calls _ _ _ (w.alloc (.cells zsig 102)) _
  have B0 : Below w.heap.size w (w.alloc (.cells zsig 102)) := (Below.refl _ _).alloc (Nat.le_refl _) _
  have hb0 := Blk.new w 102 zsig
  generalize w.alloc (.cells zsig 102) = W0 at *
  refine (rHeight_any o W0).mono ?_
  rintro e w' ⟨rfl, rfl⟩
  rw [hk]
  go_wp2_with fail
  refine (number_any A n c0 0 false l W0 4 ((h.below B0).more B0.size) (by omega) (by omega) (by omega)).mono ?_
  rintro e w' ⟨rfl, rfl⟩
  go_wp2_with ((with_reducible refine at_store 102 ?_); refine wpList_storeAll W0 rfl 102 _ _ rfl w.heap.size 102 _ zsig hb0 rfl rfl rfl (by rw [hz35.out]; exact inf35) (by decide) ?_; intro W5 hb5 hg5 hs5)
  refine bodyPost_ret (results_cell_tmp rfl _ _ w.heap.size _ _ _ _ rfl hb5 Tryz.underlying102 rfl (by rw [hz35.out]; exact inf35)) rfl ?_
  exact ⟨rfl, grown_below B0 hg5 B0.size (Nat.le_refl _)⟩
end

theorem sigRet_zero {w w' : World} {x : Int} {e : Ending} (he : e = .returned (.tuple #[.agg zsig, .int .i64 x])) (hB : Below w.heap.size w w') : SigRet w ⟨0, zeroNode0, [], []⟩ x e w' :=
  ⟨none, 0, none, 0, he, Nat.le_refl _, Nat.le_refl _, Rd.nil _ _ _ _, Rd.nil _ _ _ _, hB⟩
theorem sigRet_end {w w' : World} {l : List UInt8} {o : Nat} {e : Ending} (hk : isKind o = true) (hl : l.length = 36 + 32 * (67 + hgt o)) (h : SigEnd w l o (rdNum l 0 4 false) ((l.drop 4).take 32) e w') : SigRet w (sigVal l o) (sigErr l o) e w' := by
  unfold SigEnd at h
  by_cases hb : rdNum l 0 4 false < 2 ^ hgt o
  · rw [if_pos hb] at h
    obtain ⟨A1, c1, A2, c2, he, h1, h2, r1, r2, hB⟩ := h
    have hok : sigOk l o = true := by simp [sigOk, hk, hl, hb]
    rw [sigVal, sigErr, if_pos hok, if_pos hok, hk]
    have e1 : (nodesAt l 0 67).length = 67 := by simp [nodesAt]
    have e2 : (nodesAt l 67 (hgt o)).length = hgt o := by simp [nodesAt]
    refine ⟨A1, c1, A2, c2, ?_, ?_, ?_, ?_, ?_, hB⟩ <;> simp only [e1, e2]
    · exact he
    all_goals assumption
  · rw [if_neg hb] at h
    have hok : sigOk l o = false := by simp [sigOk, hk, hl, hb]
    rw [sigVal, sigErr, hok, hk]
    exact sigRet_zero h.1 h.2
theorem sigRet_no {w w' : World} {l : List UInt8} {o : Nat} {e : Ending} (hk : isKind o = false) (he : e = .returned (.tuple #[.agg zsig, .int .i64 80])) (hB : Below w.heap.size w w') : SigRet w (sigVal l o) (sigErr l o) e w' := by
  have hok : sigOk l o = false := by simp [sigOk, hk]
  rw [sigVal, sigErr, hok, hk]
  exact sigRet_zero he hB
theorem sigRet_len {w w' : World} {l : List UInt8} {o : Nat} {e : Ending} (hk : isKind o = true) (hl : ¬ l.length = 36 + 32 * (67 + hgt o)) (he : e = .returned (.tuple #[.agg zsig, .int .i64 81])) (hB : Below w.heap.size w w') : SigRet w (sigVal l o) (sigErr l o) e w' := by
  have hok : sigOk l o = false := by simp [sigOk, hl]
  rw [sigVal, sigErr, hok, hk]
  exact sigRet_zero he hB
theorem mSigOf_any (A : Option Addr) (n c0 : Nat) (l : List UInt8) (o : Nat) (w : World) (h : Rd w w.heap.size 1 A n (bcells l)) (hc : n ≤ c0) : Calls Tryz.prog 77 #[.slice A n c0, .int .u32 o] w (SigRet w (sigVal l o) (sigErr l o)) := by
  obtain rfl : n = l.length := by have := h.len; rw [bcells_length] at this; omega
  cases hk : isKind o with
  | false => exact (mSigOf_kind A _ c0 o w hk).mono fun e w' ⟨he, hB⟩ => sigRet_no hk he hB
  | true =>
    by_cases hl : l.length = 36 + 32 * (67 + hgt o)
    · exact (mSigOf_in A c0 l o w h hc hk hl _ rfl _ rfl).mono fun e w' hE => sigRet_end hk hl hE
    · exact (mSigOf_len A _ c0 o w hk hl).mono fun e w' ⟨he, hB⟩ => sigRet_len hk hl he hB
theorem rSigOf_any (A : Option Addr) (n c0 : Nat) (l : List UInt8) (o : Nat) (w : World) (h : Rd w w.heap.size 1 A n (bcells l)) (hn : n ≤ 1000000) (hc : n ≤ c0) : Calls Tryz.prog 44 #[.slice A n c0, .int .u32 o] w (SigRet w (sigVal l o) (sigErr l o)) := by
  obtain rfl : n = l.length := by have := h.len; rw [bcells_length] at this; omega
  cases hk : isKind o with
  | false => exact (rSigOf_kind A _ c0 o w hk).mono fun e w' ⟨he, hB⟩ => sigRet_no hk he hB
  | true =>
    by_cases hl : l.length = 36 + 32 * (67 + hgt o)
    · exact (rSigOf_in A c0 l o w h hc hk hl _ rfl _ rfl).mono fun e w' hE => sigRet_end hk hl hE
    · exact (rSigOf_len A _ c0 l o w h hn hk hl).mono fun e w' ⟨he, hB⟩ => sigRet_len hk hl he hB
end Go.Proofs.YtipdmhppadapkaaGreatDoor
/-
  Walks: portreeveref04.SameSig.
-/
namespace Go.Proofs.YtipdmhppadapkaaGreatDoor
open Go.RowKit

theorem sig_root {w : World} {g : Nat} {t : TypeId} {i : Nat} {r : List UInt8} {v1 v2 : Value} (h : Blk w g t (sigCells i r v1 v2).toArray) : w.rangeAt g 1 (bcells r) := fun j v hv => by
  rw [h.cell, Nat.add_comm 1 j]
  simp only [sigCells, List.getElem?_toArray, List.getElem?_cons_succ]
  rw [List.getElem?_append_left (List.getElem?_eq_some_iff.1 hv).1]; exact hv

structure Sg.ok (g : Sg) : Prop where
  i : g.i < 4294967296
  r : g.r.length = 32
  ots : ∀ x ∈ g.ots, x.length = 32
  auth : ∀ x ∈ g.auth, x.length = 32

end Go.Proofs.YtipdmhppadapkaaGreatDoor
/-
  Walk of the statement XmssSigs.
-/
namespace Go.Proofs.YtipdmhppadapkaaGreatDoor
open Go.RowKit

theorem sigVal_ok (l : List UInt8) (o : Nat) : (sigVal l o).ok := by
  have hz : zeroNode0.length = 32 := rfl
  unfold sigVal
  split
  · rename_i h
    simp only [sigOk, Bool.and_eq_true, beq_iff_eq, decide_eq_true_eq] at h
    have hh : hgt o ≤ 20 := by unfold hgt; split <;> (try split) <;> (try split) <;> omega
    refine ⟨rdNum_lt l 0 4 false, by simp; omega, ?_, ?_⟩
    · intro x hx
      simp only [nodesAt, List.mem_map, List.mem_range] at hx
      obtain ⟨k, hk, rfl⟩ := hx
      exact nodeAt_length l _ (by omega)
    · intro x hx
      simp only [nodesAt, List.mem_map, List.mem_range] at hx
      obtain ⟨k, hk, rfl⟩ := hx
      exact nodeAt_length l _ (by omega)
  · exact ⟨by show (0 : Nat) < 4294967296; omega, hz, by simp, by simp⟩
theorem sigVal_len (l : List UInt8) (o : Nat) : (sigVal l o).ots.length ≤ 67 ∧ (sigVal l o).auth.length ≤ 20 := by
  have hh : hgt o ≤ 20 := by unfold hgt; split <;> (try split) <;> (try split) <;> omega
  unfold sigVal
  split <;> simp [nodesAt, hh]

end Go.Proofs.YtipdmhppadapkaaGreatDoor
/-
  Walk: xmss.PutSig.
-/
namespace Go.Proofs.YtipdmhppadapkaaGreatDoor
open Go.RowKit

theorem all_append (a b : List Bs) : Bs.all (a ++ b) = Bs.all a ++ Bs.all b := by simp [Bs.all]

end Go.Proofs.YtipdmhppadapkaaGreatDoor
/-
  Walk: portreeveref04.PutSig; both PutSig of any signature.
-/
namespace Go.Proofs.YtipdmhppadapkaaGreatDoor
open Go.RowKit

/-- bytes of the call's own, as a loop gathers them -/
def Bt (w : World) (B : Nat) (L : List UInt8) (v : Value) (wr : World) : Prop :=
  Below w.heap.size w wr ∧ B ≤ wr.heap.size ∧ ∃ A c, v = .slice A L.length c ∧ wr.ownsRow B 5 1 (.slice A L.length c) L.length (bcells L)
theorem Bt.chg {w wr W : World} {B : Nat} {L : List UInt8} {v : Value} (h : Bt w B L v wr) (c : Chg (fun b => b = wr.heap.size) wr W) : Bt w B L v W := by
  obtain ⟨h1, h2, A, k, rfl, hO⟩ := h
  refine ⟨h1.trans (c.below (n := w.heap.size) (fun j e => by have e2 : j = wr.heap.size := e; have := h1.size; omega) h1.size), Nat.le_trans h2 c.size, A, k, rfl, own_chg hO c fun b hb e => ?_⟩
  have := (own_some hO hb).2
  have e2 : b = wr.heap.size := e
  omega
end Go.Proofs.YtipdmhppadapkaaGreatDoor
/-
  Plain numbers: what is put is read.
-/
namespace Go.Proofs.YtipdmhppadapkaaGreatDoor

end Go.Proofs.YtipdmhppadapkaaGreatDoor
/-
  Both PutSig of any signature; what is put is read; walk of the statement XmssPuts.
-/
namespace Go.Proofs.YtipdmhppadapkaaGreatDoor
open Go.RowKit

section
variable (g : Sg) (ok : g.ok) (o : Nat) (A1 A2 : Option Addr) (d1 d2 : Nat) (w : World) (r1 : Rd w w.heap.size 32 A1 g.ots.length (ncells g.ots)) (r2 : Rd w w.heap.size 32 A2 g.auth.length (ncells g.auth))
include ok r1 r2
end

/-! what is put is read -/
end Go.Proofs.YtipdmhppadapkaaGreatDoor
