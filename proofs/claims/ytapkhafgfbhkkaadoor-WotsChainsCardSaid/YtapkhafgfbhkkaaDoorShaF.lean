/-
  SHA's state in memory; slices cut ahead; the state's parts.
-/
import Derived.Test.YtapkhafgfbhkkaaDoorShaD
namespace Go.Proofs.YtapkhafgfbhkkaaDoor
open Go.RowKit Sha

namespace Sha
/-- what a slice is cut to: k elements less ahead -/
def CutB (A A' : Option Addr) (n k : Nat) : Prop := ∀ W B xs, Rd W B 1 A n xs → Rd W B 1 A' (n - k) (xs.drop k)
section
variable {P : Program} {ops : Array Oper} {rest : List Oper} {o : Oper} {a : Act} {Q : Exit → Act → World → Prop}
/-- b[k:] of bytes -/
theorem wpList_from (w : World) {t e : TypeId} (hgd : o.guard = none) (hu : P.underlying t = some (.slice e)) (hs : (P.info? e).map (·.size) = some 1) (x lo : Operand) (ho : o.op = .slice t x (some lo) none none)
    (A : Option Addr) (n c : Nat) (hx : a.eval x = .slice A n c) (kk : IntKind) (z : Int) (hlo : a.eval lo = .int kk z) (k : Nat) (hz : z = (k : Int)) (hk : k ≤ n) (hnc : n ≤ c)
    (h : ∀ A', CutB A A' n k → wpList P ops Q rest (a.put o.dst (.slice A' (n - k) (c - k))) w) : wpList P ops Q (o :: rest) a w := by
  have hu' : P.underlying t = some (.slice (P.elem t)) := by simp [Program.elem, hu]
  have he : P.elem t = e := by simp [Program.elem, hu]
  obtain ⟨inf, hinf, hsz⟩ := Option.map_eq_some_iff.1 hs
  have hS : (sizeOf e).run P w = .ok 1 w := by simp [sizeOf, typeInfo, hinf, hsz]
  have hr := run_slice_l (P := P) (w := w) t A n c hu' kk z (by omega) (by omega)
  rw [he, hS] at hr
  simp only [Result.andThen_ok, sliced, hz, Int.toNat_natCast] at hr
  refine wpList_plain hgd fun K hK => ?_
  unfold Oper.wp
  have hrun : (execOp a.eval o).run P w = .ok (.value (.slice (if c = k then A else A.map (·.add (k * 1))) (n - k) (c - k))) w := by
    simp [execOp, ho, hx, hlo, hz, run_sliceAt_slice (P := P) w t _ _ _ _ hu', hr]
  rw [hrun]
  refine hK _ _ (h _ fun W B xs hR => ?_)
  have := hR.cut (k := k) (cap := c) hnc
  rw [Nat.mul_one] at this
  simpa using this
end
def sliceLen : Value → Nat
  | .slice _ n _ => n
  | _ => 0
/-- a state's cells -/
def stCells (v : V8) (sm : List UInt8) (n : Nat) : List Value := wcells v.list ++ (bcells sm ++ [.int .u64 (n : Int)])
theorem stCells_length (v : V8) (sm : List UInt8) (n : Nat) (h : sm.length = 64) : (stCells v sm n).length = 73 := by simp [stCells, wcells_length, bcells_length, h, V8.list_length]
theorem stCells_n (v : V8) (sm : List UInt8) (n : Nat) (h : sm.length = 64) : (stCells v sm n)[72]? = some (.int .u64 (n : Int)) := by
  unfold stCells
  rw [List.getElem?_append_right (by simp [wcells_length, V8.list_length]), List.getElem?_append_right (by simp [wcells_length, bcells_length, V8.list_length, h])]
  simp [wcells_length, bcells_length, V8.list_length, h]
theorem stCells_setn (v : V8) (sm : List UInt8) (n m : Nat) (h : sm.length = 64) : (stCells v sm n).toArray.setIfInBounds 72 (.int .u64 (m : Int)) = (stCells v sm m).toArray := by
  simp only [List.setIfInBounds_toArray]
  congr 1
  unfold stCells
  rw [List.set_append_right _ _ (by simp [wcells_length, V8.list_length]), List.set_append_right _ _ (by simp [wcells_length, bcells_length, V8.list_length, h])]
  simp [wcells_length, bcells_length, V8.list_length, h]
theorem splice_mid {α : Type} (x y z n : List α) (o : Nat) (ho : o ≤ y.length) (hn : o + n.length ≤ y.length) (k : Nat) (hk : k = x.length + o) : splice (x ++ (y ++ z)) k n = x ++ ((y.take o ++ (n ++ y.drop (o + n.length))) ++ z) := by
  subst hk
  unfold splice
  have e1 : (x ++ (y ++ z)).take (x.length + o) = x ++ y.take o := by
    rw [List.take_append, List.take_of_length_le (by omega), Nat.add_sub_cancel_left, List.take_append_of_le_length ho]
  have e2 : (x ++ (y ++ z)).drop (x.length + o + n.length) = y.drop (o + n.length) ++ z := by
    rw [Nat.add_assoc, List.drop_append, List.drop_of_length_le (by omega), Nat.add_sub_cancel_left, List.nil_append, List.drop_append_of_le_length hn]
  rw [e1, e2]
  simp only [List.append_assoc]
theorem stCells_splice (v : V8) (sm : List UInt8) (n o : Nat) (b : List UInt8) (h : sm.length = 64) (hb : o + b.length ≤ 64) :
    (splice (stCells v sm n).toArray.toList (8 + o) (bcells b)).toArray = (stCells v (sm.take o ++ (b ++ sm.drop (o + b.length))) n).toArray := by
  congr 1
  unfold stCells
  have := splice_mid (wcells v.list) (bcells sm) [Value.int .u64 (n : Int)] (bcells b) o (by rw [bcells_length]; omega) (by rw [bcells_length, bcells_length]; omega) (8 + o) (by rw [wcells_length, V8.list_length])
  rw [show (wcells v.list ++ (bcells sm ++ [Value.int .u64 (n : Int)])).toArray.toList = wcells v.list ++ (bcells sm ++ [Value.int .u64 (n : Int)]) from rfl, this]
  simp [bcells, List.map_take, List.map_drop]
theorem fill_length (sm b : List UInt8) (o : Nat) (h : sm.length = 64) (hb : o + b.length ≤ 64) : (sm.take o ++ (b ++ sm.drop (o + b.length))).length = 64 := by simp; omega
end Sha
theorem Blk.rdAtB {w : World} {g : Nat} {t : TypeId} {cs : Array Value} (h : Blk w g t cs) (off n : Nat) (hn : off + n ≤ cs.size) : Rd w w.heap.size 1 (some ⟨g, off, none⟩) n ((cs.toList.drop off).take n) := by
  refine ⟨by rw [List.length_take, List.length_drop, Array.length_toList]; omega, fun k v hv => ⟨_, rfl, h.lt, ?_⟩⟩
  rw [Addr.add_mid, h.cell]
  rw [List.getElem?_take] at hv
  split at hv
  · rw [List.getElem?_drop] at hv; simpa using hv
  · cases hv
/-- the state of SHA at a block: the bytes L were taken in -/
def ShaSt (G : Nat) (L : List UInt8) (w : World) : Prop :=
  ∃ sm : List UInt8, sm.length = 64 ∧ sm.take (L.length % 64) = L.drop (64 * (L.length / 64)) ∧ Blk w G 82 (stCells (eats h0 L (L.length / 64)) sm L.length).toArray
/-- bytes that stay what they are while the block G is written -/
def FarB (G : Nat) (w : World) (A : Option Addr) (n : Nat) (b : List UInt8) : Prop := ∀ w', Chg (fun k => k = G) w w' → Rd w' w'.heap.size 1 A n (bcells b)
theorem FarB.chg {G : Nat} {w w1 : World} {A : Option Addr} {n : Nat} {b : List UInt8} (h : FarB G w A n b) (c : Chg (fun k => k = G) w w1) : FarB G w1 A n b := fun w' c' => h w' (c.trans c')
theorem FarB.cut {G : Nat} {w : World} {A A' : Option Addr} {n k : Nat} {b : List UInt8} (h : FarB G w A n b) (c : CutB A A' n k) : FarB G w A' (n - k) (b.drop k) := fun w' c' => by
  have := c _ _ _ (h w' c')
  rwa [show (bcells b).drop k = bcells (b.drop k) by simp [bcells, List.map_drop]] at this
theorem FarB.of_below {G : Nat} {w : World} {A : Option Addr} {n : Nat} {b : List UInt8} (h : Rd w G 1 A n (bcells b)) (hG : G ≤ w.heap.size) : FarB G w A n b := fun w' c => by
  have := h.chg c hG (fun k hk => by rw [hk]; exact Nat.le_refl _)
  exact this.more (by have := c.size; omega)
theorem FarB.rd {G : Nat} {w : World} {A : Option Addr} {n : Nat} {b : List UInt8} (h : FarB G w A n b) : Rd w w.heap.size 1 A n (bcells b) := h w (Chg.refl _ _)
theorem FarB.front {G : Nat} {w : World} {A : Option Addr} {n : Nat} {b : List UInt8} (h : FarB G w A n b) (k : Nat) (hk : k ≤ n) : FarB G w A k (b.take k) := fun w' c => by
  have := (h w' c).front (k := k) hk
  rwa [Nat.mul_one, show (bcells b).take k = bcells (b.take k) by simp [bcells, List.map_take]] at this
theorem own_baseS {w : World} {base base' : Nat} {e : TypeId} {size : Nat} {v : Value} {n : Nat} {xs : List Value} (h : w.ownsRow base e size v n xs) (hb : base' ≤ base) : w.ownsRow base' e size v n xs := by
  refine ⟨h.1, ?_⟩
  rcases h.2 with h2 | ⟨g, cap, cur, h1, h2, h3⟩
  · exact .inl h2
  · exact .inr ⟨g, cap, cur, h1, Nat.le_trans hb h2, h3⟩
/-- a row of the call's own behind G stays while G is written -/
theorem FarB.of_own {G base : Nat} {w : World} {e : TypeId} {A : Option Addr} {n c : Nat} {b : List UInt8} (h : w.ownsRow base e 1 (.slice A n c) n (bcells b)) (hG : G < base) : FarB G w A n b := fun w' ch =>
  Rd.of_own (own_chg h ch (fun k hk e => by have := (own_some h hk).1; have e : k = G := e; omega))
theorem ShaSt.below {G B : Nat} {L : List UInt8} {w w' : World} (h : ShaSt G L w) (hb : Below B w w') (hG : G < B) : ShaSt G L w' := by
  obtain ⟨sm, h1, h2, h3⟩ := h
  exact ⟨sm, h1, h2, h3.below hb hG⟩
theorem ShaSt.lt {G : Nat} {L : List UInt8} {w : World} (h : ShaSt G L w) : G < w.heap.size := by
  obtain ⟨sm, _, _, h3⟩ := h
  exact h3.lt
theorem own_cap {w : World} {base : Nat} {e : TypeId} {size : Nat} {A : Option Addr} {n c : Nat} {xs : List Value} (h : w.ownsRow base e size (.slice A n c) n xs) : n ≤ c ∧ c ≤ 9223372036854775807 := by
  rcases h.2 with ⟨e1, _⟩ | ⟨g, cap, cur, e1, _, _, h4, h5, _⟩
  · injection e1 with _ e1 e2; omega
  · injection e1 with _ _ e2; simp only [maxLen] at h5; omega
end Go.Proofs.YtapkhafgfbhkkaaDoor
