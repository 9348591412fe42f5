/-
  Walks: xmss.cutter and what it hands out; xmss.signed.may.
-/
import Derived.Test.YtnjfghlgknnhmaaXmssB
import Derived.Test.YtnjfghlgknnhmaaFlow
namespace Go.Proofs.Ytnjfghlgknnhmaa
open Go.RowKit

theorem cutter_any (A : Option Addr) (n c : Nat) (w : World) : Calls Try.prog 50 #[.slice A n c] w fun e w' => e = .returned (.func (.func 72) #[] #[.pointer (some ⟨w.heap.size, 0, none⟩)]) ∧ Blk w' w.heap.size 27 #[.slice A n c] ∧ Ext w w' ∧ w'.heap.size = w.heap.size + 1 := by
  have hb := Blk.new w 27 #[.slice A n c]
  go_enter Try.func50, Try.ntmps50
  go_wp2
  go_ret
  exact ⟨rfl, hb, (Ext.refl w).alloc _, by simp⟩

/-- what a slice is cut to: k bytes less ahead -/
def CutTo (A A' : Option Addr) (n k : Nat) : Prop := ∀ W B xs, Rd W B 1 A n xs → Rd W B 1 A' (n - k) (xs.drop k)
theorem cutTo_cap {A : Option Addr} {n k c : Nat} (hn : n ≤ c) (e : c = k) : CutTo A A n k := fun W B xs h => by
  have := h.cut (k := k) (cap := c) hn
  rw [if_pos e, Nat.mul_one] at this; exact this
theorem cutTo_on {A : Option Addr} {n k c : Nat} (hk : 0 < k) (hn : n ≤ c) (e : ¬ c = k) : CutTo A (A.map fun x => ⟨x.block, x.off + k, none⟩) n k := fun W B xs h => by
  have := h.cut (k := k) (cap := c) hn
  rw [if_neg e, Nat.mul_one] at this
  have e2 : (fun x : Addr => x.add k) = fun x => ⟨x.block, x.off + k, none⟩ := by
    funext x; unfold Addr.add; rw [if_neg (by omega)]
  rw [e2] at this; exact this

theorem grown_set (w : World) (g i : Nat) (v : Value) : w.grownBy (w.setCell ⟨g, i, none⟩ v) (some g) := ⟨rfl, rfl, rfl, by simp, fun k _ hk => heap_setCell_other w ⟨g, i, none⟩ k v (fun e => hk (by simp [e]))⟩
set_option maxRecDepth 100000 in
set_option maxHeartbeats 1000000 in
theorem cut_any (g : Nat) (A : Option Addr) (n c : Nat) (w : World) (h : Blk w g 27 #[.slice A n c]) (hn : 32 ≤ n) (hc : n ≤ c) :
    Calls Try.prog 72 #[.int .i64 32, .pointer (some ⟨g, 0, none⟩)] w fun e w' => ∃ A', CutTo A A' n 32 ∧ e = .returned (.slice A 32 c) ∧
      Blk w' g 27 #[.slice A' (n - 32) (c - 32)] ∧ w.grownBy w' (some g) ∧ w'.heap.size = w.heap.size := by
  have fin : ∀ v, Blk (w.setCell ⟨g, 0, none⟩ v) g 27 #[v] ∧ w.grownBy (w.setCell ⟨g, 0, none⟩ v) (some g) ∧ (w.setCell ⟨g, 0, none⟩ v).heap.size = w.heap.size :=
    fun v => ⟨h.set_ 0 v, grown_set w g 0 v, by simp⟩
  have h1 := h.cell 0
  have h2 := h.frozen 0
  by_cases e : c = 32
  · have hC := cutTo_cap (A := A) (n := n) (k := 32) hc e
    obtain rfl : n = 32 := by omega
    subst e
    go_enter Try.func72, Try.ntmps72
    go_wp2
    go_ret
    exact ⟨_, hC, rfl, fin _⟩
  · have hC := cutTo_on (A := A) (n := n) (k := 32) (by omega) hc e
    go_enter Try.func72, Try.ntmps72
    go_wp2
    go_ret
    exact ⟨_, hC, rfl, fin _⟩

/-- a signature with its height -/
def sigCells (i : Nat) (r : List UInt8) (v1 v2 : Value) : List Value := .int .u32 i :: (bcells r ++ [v1, v2])
def may (n1 n2 i h : Nat) : Bool := n1 == 67 && n2 == h && decide (i < 2 ^ h)

theorem sig_cell {w : World} {g : Nat} {t : TypeId} {i : Nat} {r : List UInt8} {v1 v2 v3 : Value} (hr : r.length = 32) (h : Blk w g t (sigCells i r v1 v2 ++ [v3]).toArray) :
    w.cell? ⟨g, 0, none⟩ = some (.int .u32 i) ∧ w.cell? ⟨g, 33, none⟩ = some v1 ∧ w.cell? ⟨g, 34, none⟩ = some v2 ∧ w.cell? ⟨g, 35, none⟩ = some v3 := by
  have hl : (bcells r).length = 32 := by rw [bcells_length]; exact hr
  refine ⟨?_, ?_, ?_, ?_⟩ <;> rw [h.cell] <;> simp [sigCells, hl]
theorem div_pow_eq (i h : Nat) : (((i : Int) / 2 ^ h) == 0) = decide (i < 2 ^ h) := by
  rw [Bool.eq_iff_iff, beq_iff_eq, decide_eq_true_eq]
  have e : ((i : Int) / 2 ^ h) = ((i / 2 ^ h : Nat) : Int) := by rw [Int.natCast_ediv, Int.natCast_pow]; rfl
  rw [e, ← Nat.div_eq_zero_iff_lt (Nat.pow_pos (by omega))]
  omega
set_option maxRecDepth 100000 in
set_option maxHeartbeats 1000000 in
theorem may_any (i : Nat) (r : List UInt8) (hr : r.length = 32) (A1 A2 : Option Addr) (n1 c1 n2 c2 h : Nat) (_hi : i < 4294967296) (_hh : h ≤ 20) (w : World) :
    Calls Try.prog 51 #[.agg (sigCells i r (.slice A1 n1 c1) (.slice A2 n2 c2) ++ [Value.int .i64 h]).toArray] w fun e w' => e = .returned (.bool (may n1 n2 i h)) ∧ Below w.heap.size w w' := by
  obtain ⟨c0, c1, c2, c3⟩ := sig_cell hr (Blk.new w 96 (sigCells i r (.slice A1 n1 c1) (.slice A2 n2 c2) ++ [Value.int .i64 h]).toArray)
  go_enter Try.func51, Try.ntmps51
  by_cases h1 : n1 = 67
  · subst h1
    by_cases h2 : n2 = h
    · subst h2
      go_wp2
      go_ret
      exact ⟨by rw [div_pow_eq]; simp [may], (Below.refl _ _).alloc (Nat.le_refl _) _⟩
    · have e : may 67 n2 i h = false := by simp [may, h2]
      rw [e]
      clear e
      go_wp2
      go_ret
      exact ⟨rfl, (Below.refl _ _).alloc (Nat.le_refl _) _⟩
  · have e : may n1 n2 i h = false := by simp [may, h1]
    rw [e]
    clear e
    go_wp2
    go_ret
    exact ⟨rfl, (Below.refl _ _).alloc (Nat.le_refl _) _⟩
end Go.Proofs.Ytnjfghlgknnhmaa
