/-
  Parts: Kit Region Flow Store Build Own Eq Store2 Num Tail SameN.
-/
import Derived.WalkKit
import Derived.WalkLawsBesides
import Derived.WalkSpells
import Derived.Outline
import Derived.Lib.Hide
import Derived.Maps.AppendAt
import Derived.Deep.AppendLies
import Derived.Deep.RegionHeld3
import Derived.Deep.QuietTactic
import Derived.BigQuiet
import Derived.Laws.OwnMore
import Derived.Laws.CopyOwn
import Derived.Laws.IdiomStrings
import Derived.Deep.Draws
import Derived.Deep.LoopGhost
import Derived.Deep.DeepFit
import Derived.Deep.DeepMust
import Derived.IntWalk
import Derived.Test.YtipdmhppadapkaaGreatDoorRows
import Derived.Orders
import Derived.Deep.MidRow
import Derived.Great.FillDense
import Derived.Laws.Tables
import Derived.Great.BuildSlice
import Derived.ChangeKeysEq
import Derived.Laws.BitsAllLaws
import Derived.Deep.Cut
/-
  My own words for memory and numbers, used by all walks of this seat. Nothing here names a function of the program.
-/
namespace Go.Proofs.YtipdmhppadapkaaGreatDoor
open Go.RowKit

theorem addr_block (a : Addr) (n : Nat) : (a.add n).block = a.block := by unfold Addr.add; split <;> rfl
theorem addr_add (a : Addr) (i j : Nat) : (a.add i).add j = a.add (i + j) := by
  unfold Addr.add
  by_cases hi : i = 0 <;> by_cases hj : j = 0 <;> simp [hi, hj, Nat.add_assoc]

/-- A slice value's address A leads to the cells xs (n elements of `size` cells each), below block B. -/
structure Rd (w : World) (B size : Nat) (A : Option Addr) (n : Nat) (xs : List Value) : Prop where
  len : xs.length = n * size
  cell : ∀ k v, xs[k]? = some v → ∃ a, A = some a ∧ a.block < B ∧ w.cell? (a.add k) = some v

namespace Rd
variable {w w' : World} {B B' size n : Nat} {A : Option Addr} {xs : List Value}
theorem nil (w : World) (B size : Nat) (A : Option Addr) : Rd w B size A 0 [] := ⟨by simp, fun k v h => by simp at h⟩
theorem keep (h : Rd w B size A n xs) (hk : ∀ p : Addr, p.block < B → w'.cell? p = w.cell? p) : Rd w' B size A n xs :=
  ⟨h.len, fun k v hv => by obtain ⟨a, e, hb, hc⟩ := h.cell k v hv; exact ⟨a, e, hb, (hk _ (by rw [addr_block]; exact hb)).trans hc⟩⟩
theorem more (h : Rd w B size A n xs) (hB : B ≤ B') : Rd w B' size A n xs :=
  ⟨h.len, fun k v hv => by obtain ⟨a, e, hb, hc⟩ := h.cell k v hv; exact ⟨a, e, by omega, hc⟩⟩
theorem below (h : Rd w B size A n xs) (hb : Below B w w') : Rd w' B size A n xs := h.keep fun _ hp => hb.cell hp
theorem belowm (h : Rd w B size A n xs) (hb : Below B' w w') (hB : B ≤ B') : Rd w' B size A n xs := h.below (hb.mono hB)
theorem drew (h : Rd w B size A n xs) : Rd w.drew B size A n xs := ⟨h.len, h.cell⟩
theorem alloc (h : Rd w B size A n xs) (hB : B ≤ w.heap.size) (o : Obj) : Rd (w.alloc o) B size A n xs := h.keep fun p hp => World.cell?_alloc_lt w o p (by omega)
theorem cells (h : Rd w B size A n xs) (hn : 0 < n * size) : ∃ a, A = some a ∧ a.block < B ∧ ∀ k v, xs[k]? = some v → w.cell? (a.add k) = some v := by
  obtain ⟨a, e, hb, _⟩ := h.cell 0 _ (List.getElem?_eq_getElem (by rw [h.len]; exact hn))
  refine ⟨a, e, hb, fun k v hv => ?_⟩
  obtain ⟨a', e', _, hc⟩ := h.cell k v hv
  rw [e] at e'; cases e'; exact hc
theorem cut (h : Rd w B size A n xs) {k cap : Nat} (hc : n ≤ cap) :
    Rd w B size (if cap = k then A else A.map (·.add (k * size))) (n - k) (xs.drop (k * size)) := by
  refine ⟨by rw [List.length_drop, h.len, Nat.sub_mul], fun j v hv => ?_⟩
  rw [List.getElem?_drop] at hv
  obtain ⟨a, rfl, hb, hcell⟩ := h.cell _ v hv
  have hlt : k * size + j < xs.length := (List.getElem?_eq_some_iff.1 hv).1
  rw [h.len] at hlt
  have hkn : k < n := by
    rcases Nat.lt_or_ge k n with h1 | h1
    · exact h1
    · exfalso
      have := Nat.mul_le_mul_right size h1
      omega
  rw [if_neg (by omega)]
  exact ⟨a.add (k * size), rfl, by rw [addr_block]; exact hb, by rw [addr_add]; exact hcell⟩
theorem front (h : Rd w B size A n xs) {k : Nat} (hk : k ≤ n) : Rd w B size A k (xs.take (k * size)) := by
  refine ⟨by rw [List.length_take, h.len]; exact Nat.min_eq_left (Nat.mul_le_mul_right _ hk), fun j v hv => ?_⟩
  rw [List.getElem?_take] at hv
  split at hv
  · exact h.cell j v hv
  · cases hv
theorem of_own {base : Nat} {e : TypeId} {c : Nat} (h : w.ownsRow base e size (.slice A n c) n xs) : Rd w w.heap.size size A n xs := by
  refine ⟨h.1, fun k v hv => ?_⟩
  rcases h.2 with ⟨e1, rfl⟩ | ⟨g, cap, cur, e1, _, hh, _⟩
  · have := h.1
    simp at this; subst this; simp at hv
  · injection e1 with e1 _ _
    subst e1
    exact ⟨_, rfl, (Array.getElem?_eq_some_iff.1 hh).1, h.cells (g := g) rfl k v hv⟩
end Rd

/-- A block that is known whole: cells of type t, none frozen. -/
def Blk (w : World) (g : Nat) (t : TypeId) (cs : Array Value) : Prop := w.heap[g]? = some (.cells cs t (0, 0))
namespace Blk
variable {w w' : World} {g : Nat} {t : TypeId} {cs : Array Value}
theorem lt (h : Blk w g t cs) : g < w.heap.size := (Array.getElem?_eq_some_iff.1 h).1
theorem cell (h : Blk w g t cs) (i : Nat) : w.cell? ⟨g, i, none⟩ = cs[i]? := cell_of_row w g i cs t (0, 0) h
theorem frozen (h : Blk w g t cs) (i : Nat) : w.frozen? ⟨g, i, none⟩ = false := frozen_of_row w g i cs t h
theorem new (w : World) (t : TypeId) (cs : Array Value) : Blk (w.alloc (.cells cs t)) w.heap.size t cs := heap_alloc_new w _
theorem drew (h : Blk w g t cs) : Blk w.drew g t cs := h
theorem alloc (h : Blk w g t cs) (o : Obj) : Blk (w.alloc o) g t cs := (Below.heap_alloc w o g h.lt).trans h
theorem set_ (h : Blk w g t cs) (i : Nat) (u : Value) : Blk (w.setCell ⟨g, i, none⟩ u) g t (cs.setIfInBounds i u) := heap_setCell_same w g i cs t u h
theorem far (h : Blk w g t cs) {p : Addr} (hp : g ≠ p.block) (u : Value) : Blk (w.setCell p u) g t cs := (heap_setCell_other w p g u hp).trans h
theorem below {B : Nat} (h : Blk w g t cs) (hb : Below B w w') (hg : g < B) : Blk w' g t cs := (hb.block g hg).trans h
theorem grown {row : Option Nat} (h : Blk w g t cs) (hb : w.grownBy w' row) (hg : some g ≠ row) : Blk w' g t cs := (hb.block g h.lt hg).trans h
theorem rd (h : Blk w g t cs) {size n : Nat} (hs : cs.size = n * size) : Rd w w.heap.size size (some ⟨g, 0, none⟩) n cs.toList := by
  refine ⟨by simpa using hs, fun k v hv => ⟨_, rfl, h.lt, ?_⟩⟩
  have : (⟨g, 0, none⟩ : Addr).add k = ⟨g, k, none⟩ := by unfold Addr.add; split <;> simp_all
  rw [this, h.cell k]; simpa using hv
theorem own (h : Blk w g t cs) {base size n m : Nat} (hb : base ≤ g) (hs : cs.size = m * size) (hnm : n ≤ m) (hm : m ≤ 9223372036854775807) :
    w.ownsRow base t size (.slice (some ⟨g, 0, none⟩) n m) n (cs.toList.take (n * size)) :=
  ⟨by rw [List.length_take, Array.length_toList, hs]; exact Nat.min_eq_left (Nat.mul_le_mul_right _ hnm), .inr ⟨g, m, cs, rfl, hb, h, hnm, by simp only [maxLen]; omega, hs, rfl⟩⟩
end Blk

/-- bytes as cells -/
def bcells (l : List UInt8) : List Value := l.map fun c => .int .u8 (c.toNat : Int)
theorem bcells_length (l : List UInt8) : (bcells l).length = l.length := by simp [bcells]
theorem bcells_append (a b : List UInt8) : bcells (a ++ b) = bcells a ++ bcells b := by simp [bcells]
theorem bcells_get (l : List UInt8) (k : Nat) (h : k < l.length) : (bcells l)[k]? = some (.int .u8 (l[k]?.getD 0).toNat) := by
  simp [bcells, h]
theorem bcells_one (l : List UInt8) : ∀ u ∈ bcells l, u.oneCell' = true := by
  intro u hu; simp only [bcells, List.mem_map] at hu; obtain ⟨c, _, rfl⟩ := hu; rfl

/-! ### Operations on slices, as laws at the walk's own goal -/
structure Elem (P : Program) (t e : TypeId) (z : Value) (size bytes : Nat) : Prop where
  under : P.underlying t = some (.slice e)
  info : ∃ i, P.info? e = some i ∧ i.zero = some z ∧ i.size = size ∧ i.bytes = bytes
  zs : z.cells.size = size
  pos : 0 < size
theorem Elem.of {P : Program} {t e : TypeId} {z : Value} {size bytes : Nat} (h1 : P.underlying t = some (.slice e))
    (h2 : (P.info? e).map (fun i => (i.zero, i.size, i.bytes)) = some (some z, size, bytes)) (h3 : z.cells.size = size) (h4 : 0 < size) : Elem P t e z size bytes := by
  obtain ⟨i, a, b, c, d⟩ := info_parts h2
  exact ⟨h1, ⟨i, a, b, c, d⟩, h3, h4⟩

section
variable {P : Program} {ops : Array Oper} {rest : List Oper} {o : Oper} {a : Act} {Q : Exit → Act → World → Prop}

/-- make([]T, n, m): a new block of zeros -/
theorem wpList_makeN (w : World) {t e : TypeId} {z : Value} {size bytes : Nat} (E : Elem P t e z size bytes) (hg : o.guard = none) (l c : Operand) (hop : o.op = Op.makeSlice t l c)
    (kl kc : IntKind) (L C : Int) (n m : Nat) (hl : a.eval l = .int kl L) (hc : a.eval c = .int kc C) (hL : L = (n : Int)) (hC : C = (m : Int)) (hnm : n ≤ m)
    (b2 : bytes * m ≤ 281474976710656) (b3 : m ≤ 9223372036854775807)
    (hK : ∀ w', Blk w' w.heap.size e (madeCells z.cells (m * size)) → w'.heap.size = w.heap.size + 1 → Below w.heap.size w w' → wpList P ops Q rest (a.put o.dst (.slice (some ⟨w.heap.size, 0, none⟩) n m)) w') :
    wpList P ops Q (o :: rest) a w := by
  obtain ⟨i, h2, h3, h4, h5⟩ := E.info
  refine wpList_plain hg fun K hK' => ?_
  have hb : (i.bytes : Int) * (m : Int) ≤ 281474976710656 := by
    have h : ((i.bytes * m : Nat) : Int) ≤ 281474976710656 := by rw [h5]; omega
    rwa [Int.natCast_mul] at h
  have hrun := run_make (P := P) w t e i z E.under h2 h3 kl kc n m (by omega) (by omega) hb (by omega)
  simp only [Int.toNat_natCast] at hrun
  subst hL
  subst hC
  unfold Oper.wp
  simp [execOp, hop, hl, hc, hrun, Result.andThen]
  refine hK' _ _ (hK _ ?_ (by simp) ((Below.refl _ _).alloc (Nat.le_refl _) _))
  rw [h4]; exact Blk.new _ _ _

/-- append(s, x...) onto a row of the call's own, the source any slice that reads as cells -/
theorem wpList_app (w : World) {t e : TypeId} {z : Value} {size bytes : Nat} (E : Elem P t e z size bytes) (hgd : o.guard = none) (s x : Operand)
    (ho : o.op = .call { callee := .builtin .append, args := #[s, x], argTypes := #[t, t] })
    (base : Nat) (A : Option Addr) (n c : Nat) (xs : List Value) (hs : a.eval s = .slice A n c) (hown : w.ownsRow base e size (.slice A n c) n xs)
    (B : Nat) (A2 : Option Addr) (m c2 : Nat) (news : List Value) (hx : a.eval x = .slice A2 m c2) (hr : Rd w B size A2 m news) (h1 : ∀ u ∈ news, u.oneCell' = true)
    (h63 : n + m ≤ 9223372036854775807) (hbytes : (n + m) * bytes ≤ 140737488355328) (hbase : base ≤ w.heap.size)
    (h : ∀ A' c' w', w'.ownsRow base e size (.slice A' (n + m) c') (n + m) (xs ++ news) → w.grownBy w' (Value.slice A n c).ownBlock → Below base w w' →
      ((Value.slice A' (n + m) c').ownBlock = (Value.slice A n c).ownBlock ∨ (Value.slice A' (n + m) c').ownBlock = some w.heap.size) →
      wpList P ops Q rest (a.put o.dst (.slice A' (n + m) c')) w') :
    wpList P ops Q (o :: rest) a w := by
  obtain ⟨i, hi, hz, h4, h5⟩ := E.info
  rcases Nat.eq_zero_or_pos m with h0 | h0
  · subst h0
    have hn : news = [] := List.eq_nil_of_length_eq_zero (by simpa using hr.len)
    subst hn
    refine wpList_plain hgd fun K hK => ?_
    have hrun : (Builtin.append_ #[t, t] o.type #[.slice A n c, .slice A2 0 c2]).run P w = .ok (.slice A n c) w := by
      rcases hown.2 with ⟨e1, rfl⟩ | ⟨g, cap, cur, e1, _, _, hnc, _⟩
      · injection e1 with e1 e2 e3
        subst e1 e3
        cases A2 <;> simp [Builtin.append_, run_underlying E.under, sizeOf, typeInfo, hi, Builtin.lenOf, Builtin.firstCells, loadCells, loadCellsFrom]
      · injection e1 with e1 e2 e3
        subst e1 e3
        cases A2 <;> simp [Builtin.append_, run_underlying E.under, sizeOf, typeInfo, hi, Builtin.lenOf, Builtin.firstCells, loadCells, loadCellsFrom, hnc, storeCells]
    unfold Oper.wp execOp
    simp only [ho, resolve, invoke, builtin, Sem.run_bind, Sem.run_pure, Result.andThen_ok, List.map_toArray, List.map_cons, List.map_nil, hs, hx, hrun]
    exact hK _ _ (h A c w (by simpa using hown) (World.grownBy.refl w _) (Below.refl _ _) (.inl rfl))
  · obtain ⟨ad, rfl, _, hcells⟩ := hr.cells (Nat.mul_pos h0 E.pos)
    refine wpList_append_own_at w hgd s x t ho base e i z size bytes E.under hi hz h4 h5 E.zs E.pos (.slice A n c) n xs hs hown ad m c2 news hx hr.len hcells h1 (by simp only [maxLen]; omega) hbytes hbase ?_
    intro v' w' h2 h3 _ h5
    have hex : ∃ A' c', v' = .slice A' (n + m) c' := by
      rcases h2.2 with ⟨e1, e2⟩ | ⟨g, cap, cur, e1, _⟩
      · omega
      · exact ⟨_, _, e1⟩
    obtain ⟨A', c', rfl⟩ := hex
    exact h A' c' w' h2 h3 ((Below.refl _ _).grown h3 hbase (fun k hk => (hown.lt k hk).1)) h5

/-- append(s, x): one element of one cell, laid in a new block ahead -/
theorem wpList_app1 (w : World) {t e : TypeId} {z : Value} {bytes : Nat} (E : Elem P t e z 1 bytes) (hgd : o.guard = none) (s x : Operand)
    (ho : o.op = .call { callee := .builtin .append, args := #[s, x], argTypes := #[t, t] })
    (base : Nat) (A : Option Addr) (n c : Nat) (xs : List Value) (hs : a.eval s = .slice A n c) (hown : w.ownsRow base e 1 (.slice A n c) n xs)
    (u : Value) (hx : a.eval x = .slice (some ⟨w.heap.size, 0, none⟩) 1 1) (h1 : u.oneCell' = true)
    (h63 : n + 1 ≤ 9223372036854775807) (hbytes : (n + 1) * bytes ≤ 140737488355328) (hbase : base ≤ w.heap.size)
    (h : ∀ A' c' w', w'.ownsRow base e 1 (.slice A' (n + 1) c') (n + 1) (xs ++ [u]) → w.grownBy w' (Value.slice A n c).ownBlock → Below base w w' →
      wpList P ops Q rest (a.put o.dst (.slice A' (n + 1) c')) w') :
    wpList P ops Q (o :: rest) a (w.alloc (.cells #[u] e)) := by
  refine wpList_app (w.alloc (.cells #[u] e)) E hgd s x ho base A n c xs hs (hown.alloc _) _ _ 1 1 [u] hx ((Blk.new w e #[u]).rd (size := 1) (n := 1) rfl) (by simpa using h1) h63 hbytes (by simp; omega) ?_
  intro A' c' w' h2 h3 h4 _
  exact h A' c' w' h2 ((World.grownBy_alloc w _ _).trans h3) (((Below.refl _ _).alloc hbase _).trans h4)

/-- copy(d, s): d leads into a block that is known whole -/
theorem wpList_copyAt (w : World) {dT sT e te : TypeId} (hu : P.underlying dT = some (.slice e)) (hsz : (P.info? e).map (·.size) = some 1) (hgd : o.guard = none) (d s : Operand)
    (ho : o.op = .call { callee := .builtin .copy, args := #[d, s], argTypes := #[dT, sT] })
    (g off : Nat) (cur : Array Value) (hb : Blk w g te cur) (dp : Option Addr) (dn dc : Nat) (hd : a.eval d = .slice dp dn dc)
    (B : Nat) (A2 : Option Addr) (m c2 : Nat) (news : List Value) (hx : a.eval s = .slice A2 m c2) (hr : Rd w B 1 A2 m news) (h1 : ∀ u ∈ news, u.oneCell' = true)
    (k : Nat) (hk : k = Nat.min m dn) (hdp : 0 < k → dp = some ⟨g, off, none⟩) (hfit : off + k ≤ cur.size)
    (h : ∀ w', Blk w' g te (splice cur.toList off (news.take k)).toArray → w.grownBy w' (some g) → w'.heap.size = w.heap.size → wpList P ops Q rest (a.put o.dst (.int .i64 (k : Int))) w') :
    wpList P ops Q (o :: rest) a w := by
  have hl : (news.take k).length = k := by rw [List.length_take, hr.len, hk]; simp only [Nat.mul_one]; exact Nat.min_eq_left (Nat.min_le_left _ _)
  by_cases h0 : k = 0
  · subst h0
    refine wpList_copy_nothing hgd d s dT sT ho e hu hsz dp A2 dn dc m c2 hd hx (by omega) ?_
    exact h w (by simpa [splice] using hb) (World.grownBy.refl _ _) rfl
  · have hm : 0 < m * 1 := by
      have : k ≤ m := by rw [hk]; exact Nat.min_le_left _ _
      omega
    obtain ⟨ad, rfl, _, hcells⟩ := hr.cells hm
    have hdp' := hdp (by omega)
    subst hdp'
    refine wpList_copy_own hgd d s dT sT ho e hu hsz g off dn dc ad m c2 hd hx cur te hb (news.take k) (by rw [hl, hk]) (fun j v hv => ?_) (by rw [hl]; exact hfit) (fun v hv => h1 v (List.mem_of_mem_take hv)) ?_
    · rw [List.getElem?_take] at hv
      split at hv
      · exact hcells j v hv
      · cases hv
    · rw [hl]
      exact h _ (by unfold splice; rw [hl]; exact setRow_heap w g _ _ te _ hb) ⟨rfl, rfl, rfl, by simp, fun j _ hne => setRow_other w g j _ (fun e => hne (by simp [e]))⟩ (by simp)

/-- string(b) -/
theorem run_str (w : World) (src dst e : TypeId) {B : Nat} (A : Option Addr) (n c : Nat) (l : List UInt8) (hs : P.underlying src = some (.slice e)) (he : P.underlying e = some (.int .u8)) (hd : P.underlying dst = some .string)
    (h : Rd w B 1 A n (bcells l)) : (convert src dst (.slice A n c)).run P w = .ok (.string ⟨l.toArray⟩) w := by
  have hn : n = l.length := by have := h.len; rw [bcells_length] at this; omega
  subst hn
  cases A with
  | none =>
    have : l = [] := by
      cases l with
      | nil => rfl
      | cons c l => obtain ⟨a, e, _⟩ := h.cell 0 _ (bcells_get (c :: l) 0 (by simp)); cases e
    subst this
    rw [run_convert_bytes_string w src dst e none _ c hs he hd]
    rfl
  | some a =>
    refine run_convert_bytes_back w src dst e a c l hs he hd fun j hj => ?_
    obtain ⟨a', e', _, hc⟩ := h.cell j _ (bcells_get l j hj)
    cases e'
    rw [hc, List.getElem?_eq_getElem hj]; rfl

theorem wpList_str (w : World) {src dst e : TypeId} (hs : P.underlying src = some (.slice e)) (he : P.underlying e = some (.int .u8)) (hd : P.underlying dst = some .string) (hgd : o.guard = none) (x : Operand)
    (ho : o.op = .convert src dst x) {B : Nat} (A : Option Addr) (n c : Nat) (l : List UInt8) (hx : a.eval x = .slice A n c) (hr : Rd w B 1 A n (bcells l))
    (h : wpList P ops Q rest (a.put o.dst (.string ⟨l.toArray⟩)) w) : wpList P ops Q (o :: rest) a w := by
  refine wpList_plain hgd fun K hK => ?_
  have hrun := run_str w src dst e A n c l hs he hd hr
  unfold Oper.wp
  simp [execOp, ho, hx, hrun, Result.andThen]
  exact hK _ _ h
end

/-! Guards for arms: `(with_reducible refine at_copy ?_)` goes through just where the next operation is a copy (a conversion; a comparison). -/
section
variable {P : Program} {ops : Array Oper} {rest : List Oper} {a : Act} {w : World} {Q : Exit → Act → World → Prop} {dst : Option Tmp} {ty : TypeId} {pos : String} {aft : Array Edge} {gd : Option (Nat × Bool)}
theorem at_copy {args : Array Operand} {tys : Array TypeId} (h : wpList P ops Q (⟨dst, .call ⟨.builtin .copy, args, tys⟩, ty, pos, aft, gd⟩ :: rest) a w) : wpList P ops Q (⟨dst, .call ⟨.builtin .copy, args, tys⟩, ty, pos, aft, gd⟩ :: rest) a w := h
theorem at_conv {s d : TypeId} {x : Operand} (h : wpList P ops Q (⟨dst, .convert s d x, ty, pos, aft, gd⟩ :: rest) a w) : wpList P ops Q (⟨dst, .convert s d x, ty, pos, aft, gd⟩ :: rest) a w := h
end

theorem ret_int {k : IntKind} {a b : Int} (h : a = b) : Ending.returned (.int k a) = .returned (.int k b) := by rw [h]
end Go.Proofs.YtipdmhppadapkaaGreatDoor
/-
  My own law for a region that draws its order and changes nothing that was there (reads, calls that only make memory, allocations, comparisons):
  if each operation, run in any world that extends the first one, with the slots that it looks at holding what their writers leave, comes to a value of its kind,
  then the region does, in whatever order. One pass in the order of the text is enough.
-/
namespace Go.Proofs.YtipdmhppadapkaaGreatDoor
open Go.RowKit

/-- What was there is as it was. -/
def Ext (w w' : World) : Prop := Below w.heap.size w w'
theorem Ext.refl (w : World) : Ext w w := Below.refl _ _
theorem Ext.trans {a b c : World} (h : Ext a b) (k : Ext b c) : Ext a c := Below.trans h (Below.mono k h.size)
theorem Ext.alloc {a b : World} (h : Ext a b) (o : Obj) : Ext a (b.alloc o) := Below.alloc h h.size o
theorem Ext.drew {a b : World} (h : Ext a b) : Ext a b.drew := Below.drew h
theorem Ext.below {B : Nat} {a b : World} (h : Ext a b) (hB : B ≤ a.heap.size) : Below B a b := Below.mono h hB
theorem Rd.ext {w w' : World} {size n : Nat} {A : Option Addr} {xs : List Value} (h : Rd w w.heap.size size A n xs) (e : Ext w w') : Rd w' w'.heap.size size A n xs := (h.below e).more e.size
theorem Blk.ext {w w' : World} {g : Nat} {t : TypeId} {cs : Array Value} (h : Blk w g t cs) (e : Ext w w') : Blk w' g t cs := h.below e h.lt

namespace Reg
abbrev Kd := Value → World → Prop
def eqs (x : Value) : Kd := fun v _ => v = x
def Stable (T : Kd) : Prop := ∀ v w w', T v w → Ext w w' → T v w'
theorem stable_eqs (x : Value) : Stable (eqs x) := fun _ _ _ h _ => h

def binds (e : Edge) : Bool := Region.binds .any e
/-- which operation writes a slot -/
def writer (ops : Array Oper) (t : Tmp) : Option Nat := (List.range ops.size).find? fun j => (ops[j]?).bind (·.dst) == some t
def behind (ops : Array Oper) (j i : Nat) : Bool := ((ops[j]?).map (·.after.any fun e => binds e && e.on == i)).getD false
/-- the form that the law asks: every slot that an operation looks at is written ahead of it (by an edge), or behind it (by an edge), or by none; each slot is written once; edges lead back -/
def shape (ops : Array Oper) (N : Nat) : Bool :=
  (List.range ops.size).all fun i => ((ops[i]?).map fun o =>
    ((o.looksAt ops).all fun t => match writer ops t with | none => true | some j => (decide (j < i) && behind ops i j) || (decide (i < j) && behind ops j i) || j == i) &&
    (match o.dst with | none => true | some t => decide (t < N) && writer ops t == some i) && (o.after.all fun e => !binds e || decide (e.on < i))).getD true

/-- what an operation sees in a slot -/
def Sees (ops : Array Oper) (Ts : List Kd) (a0 : Act) (i : Nat) (a : Act) (w : World) (t : Tmp) : Prop :=
  match writer ops t with
  | none => a.tmps[t]? = a0.tmps[t]?
  | some j => if j < i then ∃ v T, Ts[j]? = some T ∧ a.tmps[t]? = some v ∧ T v w else a.tmps[t]? = a0.tmps[t]?

section
variable {P : Program} {ops : Array Oper} {Q : Exit → Act → World → Prop} {a0 : Act} {w0 : World}

def Step (P : Program) (ops : Array Oper) (Q : Exit → Act → World → Prop) (o : Oper) (T : Kd) (a : Act) (w : World) : Prop :=
  (Region.wanted o (yielded ops a.tmps) = true ∧ o.wp P a w (fun a' w' => ∃ v, a' = a.put o.dst v ∧ Ext w w' ∧ T v w') Q) ∨
  (Region.wanted o (yielded ops a.tmps) = false ∧ T undef w)

def Good (P : Program) (ops : Array Oper) (Q : Exit → Act → World → Prop) (a0 : Act) (w0 : World) (Ts : List Kd) (i : Nat) (o : Oper) (T : Kd) : Prop :=
  Stable T ∧ ∀ a w, Ext w0 w → a.defers = a0.defers → (∀ t ∈ o.looksAt ops, Sees ops Ts a0 i a w t) → Step P ops Q o T a w

/-- one pass in the order of the text -/
def Pass (P : Program) (ops : Array Oper) (Q : Exit → Act → World → Prop) (a0 : Act) (w0 : World) (E : List Kd → Prop) : List Oper → List Kd → Prop
  | [], Ts => E Ts
  | o :: rest, Ts => ∃ T, Good P ops Q a0 w0 Ts Ts.length o T ∧ Pass P ops Q a0 w0 E rest (Ts ++ [T])

structure J (ops : Array Oper) (a0 : Act) (w0 : World) (Ts : List Kd) (L : Array Bool) (a : Act) (w : World) : Prop where
  size : L.size = ops.size
  closed : ∀ j o, L.getD j false = true → ops[j]? = some o → ∀ e ∈ o.after, binds e = true → L.getD e.on false = true
  defers : a.defers = a0.defers
  tmps : a.tmps.size = a0.tmps.size
  ext : Ext w0 w
  old : ∀ t, (∀ j, writer ops t = some j → L.getD j false = false) → a.tmps[t]? = a0.tmps[t]?
  new : ∀ j, L.getD j false = true → ∀ t, writer ops t = some j → ∃ v T, Ts[j]? = some T ∧ a.tmps[t]? = some v ∧ T v w

/-- what stands behind the region -/
structure Final (ops : Array Oper) (a0 : Act) (w0 : World) (Ts : List Kd) (a : Act) (w : World) : Prop where
  defers : a.defers = a0.defers
  tmps : a.tmps.size = a0.tmps.size
  ext : Ext w0 w
  old : ∀ t, writer ops t = none → a.tmps[t]? = a0.tmps[t]?
  new : ∀ t j, writer ops t = some j → ∃ v T, Ts[j]? = some T ∧ a.tmps[t]? = some v ∧ T v w

theorem writer_some {t : Tmp} {j : Nat} (h : writer ops t = some j) : j < ops.size ∧ (ops[j]?).bind (·.dst) = some t := by
  unfold writer at h
  have h1 := List.find?_some h
  have h2 := List.mem_of_find?_eq_some h
  exact ⟨by simpa using h2, by simpa using h1⟩

theorem pass_get {E : List Kd → Prop} : ∀ (l : List Oper) (Ts : List Kd), Pass P ops Q a0 w0 E l Ts →
    ∃ Us, E (Ts ++ Us) ∧ Us.length = l.length ∧ ∀ i o, l[i]? = some o → ∃ T, Us[i]? = some T ∧ Good P ops Q a0 w0 (Ts ++ Us.take i) (Ts.length + i) o T
  | [], Ts, h => ⟨[], by simpa [Pass] using h, rfl, fun i o h => by simp at h⟩
  | o :: rest, Ts, ⟨T, hg, hp⟩ => by
    obtain ⟨Us, hE, hl, hU⟩ := pass_get rest (Ts ++ [T]) hp
    refine ⟨T :: Us, by simpa using hE, by simp [hl], fun i o' hi => ?_⟩
    cases i with
    | zero =>
      simp at hi; subst hi
      exact ⟨T, rfl, by simpa using hg⟩
    | succ i =>
      simp at hi
      obtain ⟨T', h1, h2⟩ := hU i o' hi
      refine ⟨T', by simpa using h1, ?_⟩
      have e : Ts ++ [T] ++ Us.take i = Ts ++ (T :: Us).take (i + 1) := by simp
      have e2 : (Ts ++ [T]).length + i = Ts.length + (i + 1) := by simp; omega
      rw [e, e2] at h2; exact h2

theorem getD_set (L : Array Bool) (i j : Nat) (hi : i < L.size) : (L.setIfInBounds i true).getD j false = (if j = i then true else L.getD j false) := by
  by_cases h : j = i
  · subst h; simp [hi]
  · simp [h, Array.getElem?_setIfInBounds_ne (Ne.symm h)]

theorem step_any (hs : shape ops a0.tmps.size = true) {Ts : List Kd}
    (hg : ∀ i o, ops[i]? = some o → ∃ T, Ts[i]? = some T ∧ Good P ops Q a0 w0 (Ts.take i) i o T)
    (hend : ∀ a w, Final ops a0 w0 Ts a w → Q .normal a w) :
    ∀ (fuel : Nat) (L : Array Bool) (a : Act) (w : World), J ops a0 w0 Ts L a w → ((List.range ops.size).filter fun i => !L.getD i true).length ≤ fuel → wpAny P .any ops Q fuel L a w := by
  have hclose : ∀ (L : Array Bool) (a : Act) (w : World), J ops a0 w0 Ts L a w → Region.ready .any ops L = [] → ∀ j, j < ops.size → L.getD j false = true := by
    intro L a w hJ hr j
    induction j using Nat.strongRecOn with
    | _ j ih =>
      intro hj
      cases hL : L.getD j false with
      | true => rfl
      | false =>
        exfalso
        have hmem : j ∈ Region.ready .any ops L := by
          unfold Region.ready
          rw [List.mem_filter]
          refine ⟨by simpa using hj, ?_⟩
          have hjL : j < L.size := by rw [hJ.size]; exact hj
          have h1 : L.getD j true = false := by
            simp [hjL] at hL ⊢; exact hL
          rw [h1, Array.getElem?_eq_getElem hj]
          simp only [Bool.not_false, Option.map_some, Option.getD_some, Bool.true_and, Array.all_eq_true]
          intro k hk
          have hsj := (List.all_eq_true.1 hs) j (by simpa using hj)
          rw [Array.getElem?_eq_getElem hj] at hsj
          simp only [Option.map_some, Option.getD_some, Bool.and_eq_true] at hsj
          have he := (Array.all_eq_true.1 hsj.2) k hk
          simp only [binds, Bool.or_eq_true, Bool.not_eq_true', decide_eq_true_eq] at he
          rcases he with he | he
          · simp [he]
          · rw [ih _ he (by omega)]; simp
        rw [hr] at hmem
        cases hmem
  have hfin : ∀ (L : Array Bool) (a : Act) (w : World), J ops a0 w0 Ts L a w → Region.ready .any ops L = [] → Q .normal a w := by
    intro L a w hJ hr
    refine hend a w ⟨hJ.defers, hJ.tmps, hJ.ext, fun t ht => hJ.old t (fun j hj => by rw [ht] at hj; cases hj), fun t j hj => hJ.new j (hclose L a w hJ hr j (writer_some hj).1) t hj⟩
  intro fuel
  induction fuel with
  | zero =>
    intro L a w hJ hf
    have hr : Region.ready .any ops L = [] := by
      have h0 : ((List.range ops.size).filter fun i => !L.getD i true) = [] := List.eq_nil_of_length_eq_zero (by omega)
      unfold Region.ready
      apply List.eq_nil_iff_forall_not_mem.2
      intro i hi
      rw [List.mem_filter] at hi
      have : i ∈ ((List.range ops.size).filter fun i => !L.getD i true) := by
        rw [List.mem_filter]
        exact ⟨hi.1, (Bool.and_eq_true _ _ ▸ hi.2).1⟩
      rw [h0] at this; cases this
    exact ⟨hr, hfin L a w hJ hr⟩
  | succ fuel ih =>
    intro L a w hJ hf
    refine ⟨hfin L a w hJ, fun i hi => ?_⟩
    unfold Region.ready at hi
    rw [List.mem_filter] at hi
    obtain ⟨hir, hib⟩ := hi
    have hi' : i < ops.size := by simpa using hir
    have hiL : i < L.size := by rw [hJ.size]; exact hi'
    rw [Array.getElem?_eq_getElem hi'] at hib
    simp only [Option.map_some, Option.getD_some, Bool.and_eq_true, Bool.not_eq_true'] at hib
    obtain ⟨hiF, hedges⟩ := hib
    have hiF' : L.getD i false = false := by simp [hiL] at hiF ⊢; exact hiF
    have hpre : ∀ e ∈ (ops[i]'hi').after, binds e = true → L.getD e.on false = true := by
      intro e he hb
      have := (Array.all_eq_true'.1 hedges) e he
      simp only [binds] at hb
      simpa [hb] using this
    obtain ⟨T, hT, hst, hgood⟩ := hg i _ (Array.getElem?_eq_getElem hi')
    have hsi := (List.all_eq_true.1 hs) i (by simpa using hi')
    rw [Array.getElem?_eq_getElem hi'] at hsi
    simp only [Option.map_some, Option.getD_some, Bool.and_eq_true] at hsi
    obtain ⟨⟨hlook, hdst⟩, hback⟩ := hsi
    have hstep := hgood a w hJ.ext hJ.defers (by
      intro t ht
      have hl1 := (List.all_eq_true.1 hlook) t ht
      unfold Sees
      cases hw : writer ops t with
      | none => exact hJ.old t (fun j hj => by rw [hw] at hj; cases hj)
      | some j =>
        simp only [hw, Bool.or_eq_true, Bool.and_eq_true, decide_eq_true_eq, beq_iff_eq] at hl1
        simp only []
        split
        · rename_i hji
          rcases hl1 with (⟨_, hb⟩ | ⟨h1, _⟩) | h1
          · simp only [behind, Array.getElem?_eq_getElem hi', Option.map_some, Option.getD_some, Array.any_eq_true', Bool.and_eq_true, beq_iff_eq] at hb
            obtain ⟨e, he, hbe, hon⟩ := hb
            have hLj := hpre e he hbe
            rw [hon] at hLj
            obtain ⟨v, T', h1, h2, h3⟩ := hJ.new j hLj t hw
            refine ⟨v, T', ?_, h2, h3⟩
            rw [List.getElem?_take, if_pos hji]; exact h1
          · omega
          · omega
        · rename_i hji
          refine hJ.old t (fun j' hj' => ?_)
          rw [hw] at hj'; cases hj'
          rcases hl1 with (⟨h1, _⟩ | ⟨_, hb⟩) | h1
          · omega
          · cases hLj : L.getD j false with
            | false => rfl
            | true =>
              exfalso
              have hj := (writer_some hw).1
              simp only [behind, Array.getElem?_eq_getElem hj, Option.map_some, Option.getD_some, Array.any_eq_true', Bool.and_eq_true, beq_iff_eq] at hb
              obtain ⟨e, he, hbe, hon⟩ := hb
              have := hJ.closed j _ hLj (Array.getElem?_eq_getElem hj) e he hbe
              rw [hon, hiF'] at this; cases this
          · rw [h1]; exact hiF')
    have hcount : ((List.range ops.size).filter fun k => !(L.setIfInBounds i true).getD k true).length ≤ fuel := by
      have hlt : ((List.range ops.size).filter fun k => !(L.setIfInBounds i true).getD k true).length < ((List.range ops.size).filter fun k => !L.getD k true).length := by
        have hsub : ((List.range ops.size).filter fun k => !(L.setIfInBounds i true).getD k true) = ((List.range ops.size).filter fun k => !L.getD k true).filter (· != i) := by
          rw [List.filter_filter]
          apply List.filter_congr
          intro k hk
          have hk' : k < ops.size := by simpa using hk
          have hkL : k < L.size := by rw [hJ.size]; exact hk'
          by_cases h : k = i
          · subst h; simp [hkL]
          · simp [h, Array.getElem?_setIfInBounds_ne (Ne.symm h)]
        rw [hsub]
        have hm : i ∈ ((List.range ops.size).filter fun k => !L.getD k true) := by
          rw [List.mem_filter]; exact ⟨hir, by simp [hiF]⟩
        exact List.length_filter_lt_length_iff_exists.2 ⟨i, hm, by simp⟩
      omega
    have hJ' : ∀ v w', Ext w w' → T v w' → J ops a0 w0 Ts (L.setIfInBounds i true) (a.put (ops[i]'hi').dst v) w' := by
      intro v w' hE hTv
      refine ⟨by simpa using hJ.size, ?_, ?_, ?_, hJ.ext.trans hE, ?_, ?_⟩
      · intro j o hj ho e he hb
        rw [getD_set _ _ _ hiL] at hj ⊢
        split
        · rfl
        · split at hj
          · rename_i _ hji
            subst hji
            rw [Array.getElem?_eq_getElem hi'] at ho; cases ho
            exact hpre e he hb
          · exact hJ.closed j o hj ho e he hb
      · cases hd : (ops[i]'hi').dst <;> simpa [Act.put, hd] using hJ.defers
      · cases hd : (ops[i]'hi').dst <;> simpa [Act.put, hd] using hJ.tmps
      · intro t ht
        have hti : (ops[i]'hi').dst ≠ some t := by
          intro hd
          rw [hd] at hdst
          simp only [Bool.and_eq_true, beq_iff_eq] at hdst
          have := ht i hdst.2
          rw [getD_set _ _ _ hiL, if_pos rfl] at this; cases this
        have h1 : (a.put (ops[i]'hi').dst v).tmps[t]? = a.tmps[t]? := by
          cases hd : (ops[i]'hi').dst with
          | none => rfl
          | some d => simp only [Act.put]; exact Array.getElem?_setIfInBounds_ne (fun e => hti (by rw [hd, e]))
        rw [h1]
        refine hJ.old t (fun j hj => ?_)
        have := ht j hj
        rw [getD_set _ _ _ hiL] at this
        split at this
        · cases this
        · exact this
      · intro j hj t ht
        rw [getD_set _ _ _ hiL] at hj
        by_cases hji : j = i
        · subst hji
          have hd := (writer_some ht).2
          rw [Array.getElem?_eq_getElem hi'] at hd
          simp only [Option.bind_some] at hd
          refine ⟨v, T, hT, ?_, hTv⟩
          rw [hd] at hdst ⊢
          simp only [Bool.and_eq_true, decide_eq_true_eq] at hdst
          have : t < a.tmps.size := by rw [hJ.tmps]; exact hdst.1
          simp [Act.put, this]
        · rw [if_neg hji] at hj
          obtain ⟨v', T', h1, h2, h3⟩ := hJ.new j hj t ht
          have hst' : Stable T' := by
            have hjs := (writer_some ht).1
            obtain ⟨T'', h4, h5, _⟩ := hg j _ (Array.getElem?_eq_getElem hjs)
            rw [h1] at h4; cases h4; exact h5
          refine ⟨v', T', h1, ?_, hst' _ _ _ h3 hE⟩
          cases hd : (ops[i]'hi').dst with
          | none => exact h2
          | some d =>
            simp only [Act.put]
            rw [Array.getElem?_setIfInBounds_ne]
            · exact h2
            · intro e
              subst e
              rw [hd] at hdst
              simp only [Bool.and_eq_true, beq_iff_eq] at hdst
              rw [hdst.2] at ht; cases ht; exact hji rfl
    unfold wpOp
    rw [Array.getElem?_eq_getElem hi']
    simp only []
    rcases hstep with ⟨hw, hwp⟩ | ⟨hw, hTu⟩
    · rw [if_pos hw]
      refine .inl (Oper.wp_mono ?_ hwp)
      rintro a' w' ⟨v, rfl, hE, hTv⟩
      exact ih _ _ _ (hJ' v w' hE hTv) hcount
    · rw [if_neg (by rw [hw]; simp)]
      exact ih _ _ _ (hJ' undef w (Ext.refl _) hTu) hcount

/-- the same, what is known kept with the newest ahead -/
def PassR (P : Program) (ops : Array Oper) (Q : Exit → Act → World → Prop) (a0 : Act) (w0 : World) (E : List Kd → Prop) : List Oper → List Kd → Prop
  | [], Rs => E Rs.reverse
  | o :: rest, Rs => ∃ T, Good P ops Q a0 w0 Rs.reverse Rs.length o T ∧ PassR P ops Q a0 w0 E rest (T :: Rs)
/-! ### The steps -/
variable {E : List Kd → Prop} {rest : List Oper} {Rs : List Kd} {o : Oper}

/-- the guard of an operation is met -/
def Met (ops : Array Oper) (Rs : List Kd) (a0 : Act) (o : Oper) : Prop :=
  ∀ a w, (∀ t ∈ o.looksAt ops, Sees ops Rs.reverse a0 Rs.length a w t) → Region.wanted o (yielded ops a.tmps) = true
theorem met_none (h : o.guard = none) : Met ops Rs a0 o := fun a w _ => by simp [Region.wanted, h]
theorem met_some (g : Nat) (b : Bool) (t : Tmp) (h : o.guard = some (g, b)) (hd : (ops[g]?).bind (·.dst) = some t) (hw : writer ops t = some g) (hl : (o.looksAt ops).elem t = true)
    (hg : decide (g < Rs.length) = true) (hT : Rs.reverse[g]? = some (eqs (.bool b))) : Met ops Rs a0 o := fun a w hS => by
  have := hS t (List.mem_of_elem_eq_true hl)
  unfold Sees at this
  rw [hw] at this
  simp only [] at this
  rw [if_pos (of_decide_eq_true hg)] at this
  obtain ⟨v, T, h1, h2, h3⟩ := this
  rw [hT] at h1; cases h1
  have h3' : v = .bool b := h3
  subst h3'
  simp [Region.wanted, h, yielded, hd, h2]

theorem see_new (t j : Nat) {X : Value} {a : Act} {w : World} (hS : ∀ t ∈ o.looksAt ops, Sees ops Rs.reverse a0 Rs.length a w t) (hl : (o.looksAt ops).elem t = true) (hw : writer ops t = some j)
    (hj : decide (j < Rs.length) = true) (hT : Rs.reverse[j]? = some (eqs X)) : a.tmps[t]?.getD undef = X := by
  have := hS t (List.mem_of_elem_eq_true hl)
  unfold Sees at this
  rw [hw] at this
  simp only [] at this
  rw [if_pos (of_decide_eq_true hj)] at this
  obtain ⟨v, T, h1, h2, h3⟩ := this
  rw [hT] at h1; cases h1
  have h3' : v = X := h3
  rw [← h3', h2]; rfl
theorem see_kind (t j : Nat) {T : Kd} {a : Act} {w : World} (hS : ∀ t ∈ o.looksAt ops, Sees ops Rs.reverse a0 Rs.length a w t) (hl : (o.looksAt ops).elem t = true) (hw : writer ops t = some j)
    (hj : decide (j < Rs.length) = true) (hT : Rs.reverse[j]? = some T) : T (a.tmps[t]?.getD undef) w := by
  have := hS t (List.mem_of_elem_eq_true hl)
  unfold Sees at this
  rw [hw] at this
  simp only [] at this
  rw [if_pos (of_decide_eq_true hj)] at this
  obtain ⟨v, T', h1, h2, h3⟩ := this
  rw [hT] at h1; cases h1
  rw [h2]; exact h3
theorem see_old (t : Nat) {X : Value} {a : Act} {w : World} (hS : ∀ t ∈ o.looksAt ops, Sees ops Rs.reverse a0 Rs.length a w t) (hl : (o.looksAt ops).elem t = true)
    (hw : (writer ops t).all (fun j => decide (¬ j < Rs.length)) = true) (hX : a0.tmps.getD t undef = X) : a.tmps[t]?.getD undef = X := by
  have := hS t (List.mem_of_elem_eq_true hl)
  unfold Sees at this
  have h : a.tmps[t]? = a0.tmps[t]? := by
    cases hw' : writer ops t with
    | none => rw [hw'] at this; exact this
    | some j =>
      rw [hw'] at this hw
      simp only [Option.all_some, decide_eq_true_eq] at hw
      simp only [] at this
      rw [if_neg hw] at this
      exact this
  rw [← hX]
  simp only [Array.getD_eq_getD_getElem?, ← h]

theorem pass_step (T : Kd) (hst : Stable T) (hm : Met ops Rs a0 o)
    (h : ∀ a w, Ext w0 w → (∀ t ∈ o.looksAt ops, Sees ops Rs.reverse a0 Rs.length a w t) → o.wp P a w (fun a' w' => ∃ v, a' = a.put o.dst v ∧ Ext w w' ∧ T v w') Q)
    (k : PassR P ops Q a0 w0 E rest (T :: Rs)) : PassR P ops Q a0 w0 E (o :: rest) Rs :=
  ⟨T, ⟨hst, fun a w hE _ hS => .inl ⟨hm a w hS, h a w hE hS⟩⟩, k⟩
/-- an operation that comes to a value that is known, and changes nothing -/
theorem pass_val (X : Value) (hm : Met ops Rs a0 o)
    (h : ∀ a w, Ext w0 w → (∀ t ∈ o.looksAt ops, Sees ops Rs.reverse a0 Rs.length a w t) → (execOp a.eval o).run P w = .ok (.value X) w)
    (k : PassR P ops Q a0 w0 E rest (eqs X :: Rs)) : PassR P ops Q a0 w0 E (o :: rest) Rs :=
  pass_step (eqs X) (stable_eqs X) hm (fun a w hE hS => by
    unfold Oper.wp
    rw [h a w hE hS]
    exact ⟨X, rfl, Ext.refl _, rfl⟩) k
/-- a move of what an operation of this region left -/
theorem pass_copy (t j : Nat) {T : Kd} (hm : Met ops Rs a0 o) (ho : o.op = .move (.tmp t) ∨ o.op = .assign (.tmp t)) (hl : (o.looksAt ops).elem t = true) (hw : writer ops t = some j)
    (hj : decide (j < Rs.length) = true) (hT : Rs.reverse[j]? = some T) (hst : Stable T)
    (k : PassR P ops Q a0 w0 E rest (T :: Rs)) : PassR P ops Q a0 w0 E (o :: rest) Rs :=
  pass_step T hst hm (fun a w hE hS => by
    have h1 := see_kind t j hS hl hw hj hT
    have hrun : (execOp a.eval o).run P w = .ok (.value (a.tmps[t]?.getD undef)) w := by
      rcases ho with h | h <;> simp [execOp, h, Act.eval]
    unfold Oper.wp
    rw [hrun]
    exact ⟨_, rfl, Ext.refl _, h1⟩) k
/-- a move of a slot as it stood ahead of the region -/
theorem pass_old (t : Nat) {X : Value} (hm : Met ops Rs a0 o) (ho : o.op = .move (.tmp t) ∨ o.op = .assign (.tmp t)) (hl : (o.looksAt ops).elem t = true)
    (hw : (writer ops t).all (fun j => decide (¬ j < Rs.length)) = true) (hX : a0.tmps.getD t undef = X)
    (k : PassR P ops Q a0 w0 E rest (eqs X :: Rs)) : PassR P ops Q a0 w0 E (o :: rest) Rs :=
  pass_val X hm (fun a w _ hS => by
    have h1 := see_old t hS hl hw hX
    rcases ho with h | h <;> simp [execOp, h, Act.eval, h1]) k
/-- a call of a Go function -/
theorem wp_call {f : FuncId} {fn : Func} {c : Code} {args : Array Operand} {tys : Array TypeId} {vals : Array Value} {a : Act} {w : World} {K : Act → World → Prop} {R : Ending → World → Prop}
    (ho : o.op = .call { callee := .value (.func f), args := args, argTypes := tys }) (hf : P.funcs[f]? = some fn) (hb : fn.body = some c) (hname : (fn.name == "runtime.NumGoroutine") = false)
    (hv : args.map a.eval = vals) (h : Calls P f vals w R) (hR : ∀ e w', R e w' → ∃ v, e = .returned v ∧ K (a.put o.dst v) w') : o.wp P a w K Q := by
  have h1 : fn.name ≠ "runtime.NumGoroutine" := by simpa using hname
  have hrun : (execOp a.eval o).run P w = .ok (.enter f vals) w := by
    simp [execOp, ho, resolve, Act.eval, Deferred.ofValue, invoke, callFunc, hf, h1, hb]
    exact hv
  unfold Oper.wp
  rw [hrun]
  refine Calls.mono h fun e w' hr => ?_
  obtain ⟨v, rfl, hK⟩ := hR e w' hr
  exact hK

/-- a slice of a new block -/
def built (e : TypeId) (n : Nat) (vals : Array Value) : Kd := fun v w => ∃ b, v = .slice (some ⟨b, 0, none⟩) n n ∧ Blk w b e vals
/-- the slots behind the region: those that it wrote, and those that it left -/
def sel (f : Tmp → Value) : List (Option Tmp) → List Value → List Value
  | some t :: M, _ :: l => f t :: sel f M l
  | none :: M, v :: l => v :: sel f M l
  | _, l => l
theorem sel_get (f : Tmp → Value) : ∀ (M : List (Option Tmp)) (l : List Value) (k : Nat), k < l.length → M.length = l.length → (sel f M l)[k]? = match M[k]? with | some (some t) => some (f t) | _ => l[k]?
  | [], l, k, h, hl => by simp at hl; rw [← hl] at h; simp at h
  | some t :: M, v :: l, k, h, hl => by
    cases k with
    | zero => rfl
    | succ k => simpa [sel] using sel_get f M l k (by simpa using h) (by simpa using hl)
  | none :: M, v :: l, k, h, hl => by
    cases k with
    | zero => rfl
    | succ k => simpa [sel] using sel_get f M l k (by simpa using h) (by simpa using hl)
  | some _ :: _, [], k, h, _ => by simp at h
  | none :: _, [], k, h, _ => by simp at h
theorem sel_length (f : Tmp → Value) : ∀ (M : List (Option Tmp)) (l : List Value), (sel f M l).length = l.length
  | [], l => by cases l <;> rfl
  | some t :: M, v :: l => by simp [sel, sel_length f M l]
  | none :: M, v :: l => by simp [sel, sel_length f M l]
  | some _ :: _, [] => rfl
  | none :: _, [] => rfl

theorem pass_end {Ts : List Kd} (M : List (Option Tmp)) (hM : (List.range a0.tmps.size).map (fun t => if (writer ops t).isSome then some t else none) = M)
    (h : ∀ (f : Tmp → Value) (w : World), Ext w0 w → (∀ t j T, writer ops t = some j → Ts[j]? = some T → T (f t) w) → Q .normal ⟨(sel f M a0.tmps.toList).toArray, a0.defers⟩ w) :
    ∀ a w, Final ops a0 w0 Ts a w → Q .normal a w := by
  intro a w hF
  have ha : (⟨(sel (fun t => a.tmps[t]?.getD undef) M a0.tmps.toList).toArray, a0.defers⟩ : Act) = a := by
    have e1 : (sel (fun t => a.tmps[t]?.getD undef) M a0.tmps.toList).toArray = a.tmps := by
      have hML : M.length = a0.tmps.toList.length := by rw [← hM]; simp
      apply Array.ext_getElem?
      intro k
      simp only [List.getElem?_toArray]
      by_cases hk : k < a0.tmps.toList.length
      · rw [sel_get _ _ _ _ hk hML, ← hM]
        have hk' : k < a0.tmps.size := by simpa using hk
        have hka : k < a.tmps.size := by rw [hF.tmps]; exact hk'
        simp only [List.getElem?_map, List.getElem?_range hk', Option.map_some]
        cases hw : writer ops k with
        | none => simp only [Option.isSome_none, Bool.false_eq_true, if_false]; rw [hF.old k hw]; simp
        | some j => simp [hka]
      · rw [List.getElem?_eq_none (by rw [sel_length]; omega), Array.getElem?_eq_none (by rw [hF.tmps]; simpa using hk)]
    cases a
    simp only [Act.mk.injEq]
    exact ⟨e1, hF.defers.symm⟩
  have := h (fun t => a.tmps[t]?.getD undef) w hF.ext (by
    intro t j T hw hT
    obtain ⟨v, T', h1, h2, h3⟩ := hF.new t j hw
    rw [hT] at h1; cases h1
    simp only [h2, Option.getD_some]; exact h3)
  rw [ha] at this
  exact this
end
end Reg
end Go.Proofs.YtipdmhppadapkaaGreatDoor
/-
  My own law for a region that draws its order and writes blocks that its text names: each operation says which blocks it may change; what is known of a slot, and what an operation asks of memory,
  need only stand against those operations that may come between. One pass in the order of the text is enough.
-/
namespace Go.Proofs.YtipdmhppadapkaaGreatDoor
open Go.RowKit

/-- What was there is as it was, but for the blocks of Z. -/
structure Chg (Z : Nat → Prop) (w w' : World) : Prop where
  os : w'.os = w.os
  tape : w'.tape = w.tape
  output : w'.output = w.output
  size : w.heap.size ≤ w'.heap.size
  block : ∀ k, k < w.heap.size → ¬ Z k → w'.heap[k]? = w.heap[k]?
namespace Chg
variable {Z Z' : Nat → Prop} {a b c w w' : World}
theorem refl (Z : Nat → Prop) (w : World) : Chg Z w w := ⟨rfl, rfl, rfl, Nat.le_refl _, fun _ _ _ => rfl⟩
theorem trans (h : Chg Z a b) (k : Chg Z b c) : Chg Z a c :=
  ⟨k.os.trans h.os, k.tape.trans h.tape, k.output.trans h.output, Nat.le_trans h.size k.size, fun i hi hn => (k.block i (Nat.lt_of_lt_of_le hi h.size) hn).trans (h.block i hi hn)⟩
theorem mono (h : Chg Z w w') (hZ : ∀ k, Z k → Z' k) : Chg Z' w w' := ⟨h.os, h.tape, h.output, h.size, fun k hk hn => h.block k hk fun hz => hn (hZ k hz)⟩
theorem of_ext (h : Ext w w') : Chg Z w w' := ⟨h.os, h.tape, h.output, h.size, fun k hk _ => h.block k hk⟩
theorem ext (h : Chg (fun _ => False) w w') : Ext w w' := ⟨h.os, h.tape, h.output, h.size, fun k hk => h.block k hk id⟩
theorem grown {r : Option Nat} (h : w.grownBy w' r) (hr : ∀ k, r = some k → Z k) : Chg Z w w' :=
  ⟨h.os, h.tape, h.output, h.size, fun k hk hn => h.block k hk fun e => hn (hr k e.symm)⟩
theorem below (h : Chg Z w w') {n : Nat} (hZ : ∀ k, Z k → n ≤ k) (hn : n ≤ w.heap.size) : Below n w w' :=
  ⟨h.os, h.tape, h.output, h.size, fun k hk => h.block k (by omega) fun hz => by have := hZ k hz; omega⟩
theorem of_below {n : Nat} (h : Below n w w') (hZ : ∀ k, n ≤ k → k < w.heap.size → Z k) : Chg Z w w' :=
  ⟨h.os, h.tape, h.output, h.size, fun k hk hn => h.block k (Nat.lt_of_not_le fun hk' => hn (hZ k hk' hk))⟩
theorem drew (h : Chg Z w w') : Chg Z w w'.drew := ⟨h.os, h.tape, h.output, h.size, h.block⟩
theorem alloc (h : Chg Z w w') (o : Obj) : Chg Z w (w'.alloc o) := h.trans (of_ext ((Ext.refl _).alloc o))
end Chg
theorem Blk.chg {Z : Nat → Prop} {w w' : World} {g : Nat} {t : TypeId} {cs : Array Value} (h : Blk w g t cs) (c : Chg Z w w') (hg : ¬ Z g) : Blk w' g t cs := (c.block g h.lt hg).trans h
theorem Rd.chg {Z : Nat → Prop} {w w' : World} {B size n : Nat} {A : Option Addr} {xs : List Value} (h : Rd w B size A n xs) (c : Chg Z w w') (hB : B ≤ w.heap.size) (hZ : ∀ k, Z k → B ≤ k) : Rd w' B size A n xs :=
  h.keep fun p hp => World.cell?_of_block (c.block p.block (by omega) fun hz => by have := hZ _ hz; omega)
theorem own_chg {Z : Nat → Prop} {w w' : World} {base size n : Nat} {e : TypeId} {v : Value} {xs : List Value} (h : w.ownsRow base e size v n xs) (c : Chg Z w w') (hv : ∀ k, v.ownBlock = some k → ¬ Z k) : w'.ownsRow base e size v n xs := by
  refine ⟨h.1, ?_⟩
  rcases h.2 with h2 | ⟨g, cap, cur, rfl, hb, hh, h3⟩
  · exact .inl h2
  · exact .inr ⟨g, cap, cur, rfl, hb, (c.block g (Array.getElem?_eq_some_iff.1 hh).1 (hv g rfl)).trans hh, h3⟩

namespace Flow
open Reg
/-- an operation waits for another one -/
def waits (ops : Array Oper) : Nat → Nat → Nat → Bool
  | 0, _, _ => false
  | f + 1, i, j => ((ops[i]?).map fun o => o.after.any fun e => binds e && (e.on == j || waits ops f e.on j)).getD false
abbrev Done := Nat → Bool
/-- a kind that may lapse when an operation is done -/
abbrev KdL := Done → Value → World → Prop
def up (T : Kd) : KdL := fun _ => T
def setD (D : Done) (k : Nat) : Done := fun j => if j = k then true else D j
def doneOf (L : Array Bool) : Done := fun k => L.getD k false
abbrev Zs := List (Nat × (Nat → Prop))
abbrev Fs := List (Nat × (World → Prop))
def zone : Zs → Nat → (Nat → Prop)
  | [], _ => fun _ => False
  | p :: zs, i => if p.1 = i then p.2 else zone zs i
def Kept (Z : Nat → Prop) (F : World → Prop) : Prop := ∀ w w', Chg Z w w' → F w → F w'
def KeptK (Z : Nat → Prop) (T : Kd) : Prop := ∀ v w w', Chg Z w w' → T v w → T v w'
def KeptL (k : Nat) (Z : Nat → Prop) (T : KdL) : Prop := ∀ D v w w', Chg Z w w' → T D v w → T (setD D k) v w'
theorem keptL_up {k : Nat} {Z : Nat → Prop} {T : Kd} (h : KeptK Z T) : KeptL k Z (up T) := fun _ v w w' c hT => h v w w' c hT
/-- what an operation sees in a slot -/
def SeesL (ops : Array Oper) (Ts : List KdL) (a0 : Act) (i : Nat) (a : Act) (w : World) (t : Tmp) : Prop :=
  match writer ops t with
  | none => a.tmps[t]? = a0.tmps[t]?
  | some j => if j < i then ∃ v T D, Ts[j]? = some T ∧ a.tmps[t]? = some v ∧ (D i = false ∧ ∀ k, waits ops 8 k i = true → D k = false) ∧ T D v w else a.tmps[t]? = a0.tmps[t]?

theorem waits_closed {ops : Array Oper} {L : Array Bool} (hcl : ∀ j o, L.getD j false = true → ops[j]? = some o → ∀ e ∈ o.after, binds e = true → L.getD e.on false = true) :
    ∀ (f i j : Nat), L.getD i false = true → waits ops f i j = true → L.getD j false = true
  | 0, _, _, _, h => by simp [waits] at h
  | f + 1, i, j, hi, h => by
    cases ho : ops[i]? with
    | none => simp [waits, ho] at h
    | some o =>
      simp only [waits, ho, Option.map_some, Option.getD_some, Array.any_eq_true', Bool.and_eq_true, Bool.or_eq_true, beq_iff_eq] at h
      obtain ⟨e, he, hb, h⟩ := h
      have h1 := hcl i o hi ho e he hb
      rcases h with h | h
      · rw [h] at h1; exact h1
      · exact waits_closed hcl f _ _ h1 h

theorem zone_kept {R : (Nat → Prop) → Prop} (zs : Zs) (ok : Nat → Bool) (h0 : R fun _ => False) (h : ∀ p ∈ zs, ok p.1 = true → R p.2) (k : Nat) (hk : ok k = true) : R (zone zs k) := by
  induction zs with
  | nil => exact h0
  | cons p zs ih =>
    unfold zone
    split
    · rename_i e; exact h p (List.mem_cons_self) (by rw [e]; exact hk)
    · exact ih fun q hq => h q (List.mem_cons_of_mem _ hq)
theorem zone_le {n : Nat} (zs : Zs) (h : ∀ p ∈ zs, ∀ b, p.2 b → n ≤ b) (k b : Nat) (hb : zone zs k b) : n ≤ b :=
  zone_kept (R := fun Z => ∀ b, Z b → n ≤ b) zs (fun _ => true) (fun _ h => h.elim) (fun p hp _ => h p hp) k rfl b hb

section
variable {P : Program} {ops : Array Oper} {Q : Exit → Act → World → Prop} {a0 : Act} {w0 : World} {n0 : Nat} {zs : Zs} {fs : Fs}

def OpWp (P : Program) (o : Oper) (a : Act) (w : World) (K : Act → World → Prop) (Q : Exit → Act → World → Prop) : Prop := o.wp P a w K Q ∨ (o.asks P a w ∧ LetsOut Q)
def Step (P : Program) (ops : Array Oper) (Q : Exit → Act → World → Prop) (Z : Nat → Prop) (o : Oper) (T : KdL) (a : Act) (w : World) : Prop :=
  (Region.wanted o (yielded ops a.tmps) = true ∧ OpWp P o a w (fun a' w' => ∃ v, a' = a.put o.dst v ∧ Chg Z w w' ∧ ∀ D, T D v w') Q) ∨
  (Region.wanted o (yielded ops a.tmps) = false ∧ ∀ D, T D undef w)

/-- may come behind -/
def mayFollow (ops : Array Oper) (i k : Nat) : Bool := !(k == i) && !(waits ops 8 i k)
/-- what an operation is handed: the world, its facts, its slots, what the operations left that it waits for -/
structure Hands (ops : Array Oper) (a0 : Act) (w0 : World) (n0 : Nat) (fs : Fs) (Ts : List KdL) (i : Nat) (o : Oper) (a : Act) (w : World) : Prop where
  below : Below n0 w0 w
  defers : a.defers = a0.defers
  fact : ∀ p ∈ fs, p.1 = i → p.2 w
  sees : ∀ t ∈ o.looksAt ops, SeesL ops Ts a0 i a w t
  past : ∀ j, j < i → behind ops i j = true → ∃ v T D, Ts[j]? = some T ∧ (D i = false ∧ ∀ k, waits ops 8 k i = true → D k = false) ∧ T D v w
structure Good (P : Program) (ops : Array Oper) (Q : Exit → Act → World → Prop) (a0 : Act) (w0 : World) (n0 : Nat) (zs : Zs) (fs : Fs) (Ts : List KdL) (i : Nat) (o : Oper) (T : KdL) : Prop where
  kept : ∀ k, mayFollow ops i k = true → KeptL k (zone zs k) T
  step : ∀ a w, Hands ops a0 w0 n0 fs Ts i o a w → Step P ops Q (zone zs i) o T a w

structure J (ops : Array Oper) (a0 : Act) (w0 : World) (n0 : Nat) (fs : Fs) (Ts : List KdL) (L : Array Bool) (a : Act) (w : World) : Prop where
  size : L.size = ops.size
  closed : ∀ j o, L.getD j false = true → ops[j]? = some o → ∀ e ∈ o.after, binds e = true → L.getD e.on false = true
  defers : a.defers = a0.defers
  tmps : a.tmps.size = a0.tmps.size
  below : Below n0 w0 w
  old : ∀ t, (∀ j, writer ops t = some j → L.getD j false = false) → a.tmps[t]? = a0.tmps[t]?
  new : ∀ j, L.getD j false = true → ∃ v T, Ts[j]? = some T ∧ T (doneOf L) v w ∧ ∀ t, writer ops t = some j → a.tmps[t]? = some v
  fact : ∀ p ∈ fs, L.getD p.1 false = false → p.2 w

structure Final (ops : Array Oper) (a0 : Act) (w0 : World) (n0 : Nat) (fs : Fs) (Ts : List KdL) (a : Act) (w : World) : Prop where
  defers : a.defers = a0.defers
  tmps : a.tmps.size = a0.tmps.size
  below : Below n0 w0 w
  old : ∀ t, writer ops t = none → a.tmps[t]? = a0.tmps[t]?
  new : ∀ j, j < ops.size → ∃ v T D, Ts[j]? = some T ∧ T D v w ∧ ∀ t, writer ops t = some j → a.tmps[t]? = some v
  fact : ∀ p ∈ fs, ops.size ≤ p.1 → p.2 w

theorem step_any (hs : Reg.shape ops a0.tmps.size = true) (hn0 : n0 ≤ w0.heap.size) (hzs : ∀ p ∈ zs, ∀ b, p.2 b → n0 ≤ b) {Ts : List KdL}
    (hfs : ∀ p ∈ fs, ∀ k, mayFollow ops k p.1 = true → Kept (zone zs k) p.2)
    (hg : ∀ i o, ops[i]? = some o → ∃ T, Ts[i]? = some T ∧ Good P ops Q a0 w0 n0 zs fs (Ts.take i) i o T)
    (hend : ∀ a w, Final ops a0 w0 n0 fs Ts a w → Q .normal a w) :
    ∀ (fuel : Nat) (L : Array Bool) (a : Act) (w : World), J ops a0 w0 n0 fs Ts L a w → ((List.range ops.size).filter fun i => !L.getD i true).length ≤ fuel → wpAny P .any ops Q fuel L a w := by
  have hclose : ∀ (L : Array Bool) (a : Act) (w : World), J ops a0 w0 n0 fs Ts L a w → Region.ready .any ops L = [] → ∀ j, j < ops.size → L.getD j false = true := by
    intro L a w hJ hr j
    induction j using Nat.strongRecOn with
    | _ j ih =>
      intro hj
      cases hL : L.getD j false with
      | true => rfl
      | false =>
        exfalso
        have hmem : j ∈ Region.ready .any ops L := by
          unfold Region.ready
          rw [List.mem_filter]
          refine ⟨by simpa using hj, ?_⟩
          have hjL : j < L.size := by rw [hJ.size]; exact hj
          have h1 : L.getD j true = false := by
            simp [hjL] at hL ⊢; exact hL
          rw [h1, Array.getElem?_eq_getElem hj]
          simp only [Bool.not_false, Option.map_some, Option.getD_some, Bool.true_and, Array.all_eq_true]
          intro k hk
          have hsj := (List.all_eq_true.1 hs) j (by simpa using hj)
          rw [Array.getElem?_eq_getElem hj] at hsj
          simp only [Option.map_some, Option.getD_some, Bool.and_eq_true] at hsj
          have he := (Array.all_eq_true.1 hsj.2) k hk
          simp only [binds, Bool.or_eq_true, Bool.not_eq_true', decide_eq_true_eq] at he
          rcases he with he | he
          · simp [he]
          · rw [ih _ he (by omega)]; simp
        rw [hr] at hmem
        cases hmem
  have hfin : ∀ (L : Array Bool) (a : Act) (w : World), J ops a0 w0 n0 fs Ts L a w → Region.ready .any ops L = [] → Q .normal a w := by
    intro L a w hJ hr
    refine hend a w ⟨hJ.defers, hJ.tmps, hJ.below, fun t ht => hJ.old t (fun j hj => by rw [ht] at hj; cases hj), fun j hj => (hJ.new j (hclose L a w hJ hr j hj)).imp fun v ⟨T, h1, h2, h3⟩ => ⟨T, doneOf L, h1, h2, h3⟩, fun p hp hge => hJ.fact p hp ?_⟩
    have : ¬ p.1 < L.size := by rw [hJ.size]; omega
    simp [this]
  intro fuel
  induction fuel with
  | zero =>
    intro L a w hJ hf
    have hr : Region.ready .any ops L = [] := by
      have h0 : ((List.range ops.size).filter fun i => !L.getD i true) = [] := List.eq_nil_of_length_eq_zero (by omega)
      unfold Region.ready
      apply List.eq_nil_iff_forall_not_mem.2
      intro i hi
      rw [List.mem_filter] at hi
      have : i ∈ ((List.range ops.size).filter fun i => !L.getD i true) := by
        rw [List.mem_filter]
        exact ⟨hi.1, (Bool.and_eq_true _ _ ▸ hi.2).1⟩
      rw [h0] at this; cases this
    exact ⟨hr, hfin L a w hJ hr⟩
  | succ fuel ih =>
    intro L a w hJ hf
    refine ⟨hfin L a w hJ, fun i hi => ?_⟩
    unfold Region.ready at hi
    rw [List.mem_filter] at hi
    obtain ⟨hir, hib⟩ := hi
    have hi' : i < ops.size := by simpa using hir
    have hiL : i < L.size := by rw [hJ.size]; exact hi'
    rw [Array.getElem?_eq_getElem hi'] at hib
    simp only [Option.map_some, Option.getD_some, Bool.and_eq_true, Bool.not_eq_true'] at hib
    obtain ⟨hiF, hedges⟩ := hib
    have hiF' : L.getD i false = false := by simp [hiL] at hiF ⊢; exact hiF
    have hpre : ∀ e ∈ (ops[i]'hi').after, binds e = true → L.getD e.on false = true := by
      intro e he hb
      have := (Array.all_eq_true'.1 hedges) e he
      simp only [binds] at hb
      simpa [hb] using this
    obtain ⟨T, hT, hgood⟩ := hg i _ (Array.getElem?_eq_getElem hi')
    have hsi := (List.all_eq_true.1 hs) i (by simpa using hi')
    rw [Array.getElem?_eq_getElem hi'] at hsi
    simp only [Option.map_some, Option.getD_some, Bool.and_eq_true] at hsi
    obtain ⟨⟨hlook, hdst⟩, hback⟩ := hsi
    have hbeh : ∀ j, behind ops i j = true → L.getD j false = true := by
      intro j hb
      simp only [behind, Array.getElem?_eq_getElem hi', Option.map_some, Option.getD_some, Array.any_eq_true', Bool.and_eq_true, beq_iff_eq] at hb
      obtain ⟨e, he, hbe, hon⟩ := hb
      have hLj := hpre e he hbe
      rwa [hon] at hLj
    have hstep := hgood.step a w ⟨hJ.below, hJ.defers, fun p hp he => hJ.fact p hp (by rw [he]; exact hiF'), by
      intro t ht
      have hl1 := (List.all_eq_true.1 hlook) t ht
      unfold SeesL
      cases hw : writer ops t with
      | none => exact hJ.old t (fun j hj => by rw [hw] at hj; cases hj)
      | some j =>
        simp only [hw, Bool.or_eq_true, Bool.and_eq_true, decide_eq_true_eq, beq_iff_eq] at hl1
        simp only []
        split
        · rename_i hji
          rcases hl1 with (⟨_, hb⟩ | ⟨h1, _⟩) | h1
          · obtain ⟨v, T', h1, h2, h3⟩ := hJ.new j (hbeh j hb)
            refine ⟨v, T', doneOf L, ?_, h3 t hw, ⟨hiF', fun k hk => ?_⟩, h2⟩
            · rw [List.getElem?_take, if_pos hji]; exact h1
            · cases hLk : doneOf L k with
              | false => rfl
              | true => rw [waits_closed hJ.closed 8 k i hLk hk] at hiF'; cases hiF' 
          · omega
          · omega
        · rename_i hji
          refine hJ.old t (fun j' hj' => ?_)
          rw [hw] at hj'; cases hj'
          rcases hl1 with (⟨h1, _⟩ | ⟨_, hb⟩) | h1
          · omega
          · cases hLj : L.getD j false with
            | false => rfl
            | true =>
              exfalso
              have hj := (writer_some hw).1
              simp only [behind, Array.getElem?_eq_getElem hj, Option.map_some, Option.getD_some, Array.any_eq_true', Bool.and_eq_true, beq_iff_eq] at hb
              obtain ⟨e, he, hbe, hon⟩ := hb
              have := hJ.closed j _ hLj (Array.getElem?_eq_getElem hj) e he hbe
              rw [hon, hiF'] at this; cases this
          · rw [h1]; exact hiF', fun j hji hb => by
      obtain ⟨v, T', h1, h2, _⟩ := hJ.new j (hbeh j hb)
      refine ⟨v, T', doneOf L, by rw [List.getElem?_take, if_pos hji]; exact h1, ⟨hiF', fun k hk => ?_⟩, h2⟩
      cases hLk : doneOf L k with
      | false => rfl
      | true => rw [waits_closed hJ.closed 8 k i hLk hk] at hiF'; cases hiF'⟩
    have hcount : ((List.range ops.size).filter fun k => !(L.setIfInBounds i true).getD k true).length ≤ fuel := by
      have hlt : ((List.range ops.size).filter fun k => !(L.setIfInBounds i true).getD k true).length < ((List.range ops.size).filter fun k => !L.getD k true).length := by
        have hsub : ((List.range ops.size).filter fun k => !(L.setIfInBounds i true).getD k true) = ((List.range ops.size).filter fun k => !L.getD k true).filter (· != i) := by
          rw [List.filter_filter]
          apply List.filter_congr
          intro k hk
          have hk' : k < ops.size := by simpa using hk
          have hkL : k < L.size := by rw [hJ.size]; exact hk'
          by_cases h : k = i
          · subst h; simp [hkL]
          · simp [h, Array.getElem?_setIfInBounds_ne (Ne.symm h)]
        rw [hsub]
        have hm : i ∈ ((List.range ops.size).filter fun k => !L.getD k true) := by
          rw [List.mem_filter]; exact ⟨hir, by simp [hiF]⟩
        exact List.length_filter_lt_length_iff_exists.2 ⟨i, hm, by simp⟩
      omega
    have hD : doneOf (L.setIfInBounds i true) = setD (doneOf L) i := by
      funext k
      simp only [doneOf, setD, getD_set _ _ _ hiL]
    have hJ' : ∀ v w', Chg (zone zs i) w w' → (∀ D, T D v w') → J ops a0 w0 n0 fs Ts (L.setIfInBounds i true) (a.put (ops[i]'hi').dst v) w' := by
      intro v w' hE hTv
      have hput : ∀ j t, writer ops t = some j → j ≠ i → (a.put (ops[i]'hi').dst v).tmps[t]? = a.tmps[t]? := by
        intro j t ht hji
        cases hd : (ops[i]'hi').dst with
        | none => rfl
        | some d =>
          simp only [Act.put]
          rw [Array.getElem?_setIfInBounds_ne]
          intro e
          subst e
          rw [hd] at hdst
          simp only [Bool.and_eq_true, beq_iff_eq] at hdst
          rw [hdst.2] at ht; cases ht; exact hji rfl
      refine ⟨by simpa using hJ.size, ?_, ?_, ?_, hJ.below.trans (hE.below (zone_le zs hzs i) (Nat.le_trans hn0 hJ.below.size)), ?_, ?_, ?_⟩
      · intro j o hj ho e he hb
        rw [getD_set _ _ _ hiL] at hj ⊢
        split
        · rfl
        · split at hj
          · rename_i _ hji
            subst hji
            rw [Array.getElem?_eq_getElem hi'] at ho; cases ho
            exact hpre e he hb
          · exact hJ.closed j o hj ho e he hb
      · cases hd : (ops[i]'hi').dst <;> simpa [Act.put, hd] using hJ.defers
      · cases hd : (ops[i]'hi').dst <;> simpa [Act.put, hd] using hJ.tmps
      · intro t ht
        have hti : (ops[i]'hi').dst ≠ some t := by
          intro hd
          rw [hd] at hdst
          simp only [Bool.and_eq_true, beq_iff_eq] at hdst
          have := ht i hdst.2
          rw [getD_set _ _ _ hiL, if_pos rfl] at this; cases this
        have h1 : (a.put (ops[i]'hi').dst v).tmps[t]? = a.tmps[t]? := by
          cases hd : (ops[i]'hi').dst with
          | none => rfl
          | some d => simp only [Act.put]; exact Array.getElem?_setIfInBounds_ne (fun e => hti (by rw [hd, e]))
        rw [h1]
        refine hJ.old t (fun j hj => ?_)
        have := ht j hj
        rw [getD_set _ _ _ hiL] at this
        split at this
        · cases this
        · exact this
      · intro j hj
        rw [getD_set _ _ _ hiL] at hj
        by_cases hji : j = i
        · subst hji
          refine ⟨v, T, hT, hTv _, fun t ht => ?_⟩
          have hd := (writer_some ht).2
          rw [Array.getElem?_eq_getElem hi'] at hd
          simp only [Option.bind_some] at hd
          rw [hd] at hdst ⊢
          simp only [Bool.and_eq_true, decide_eq_true_eq] at hdst
          have : t < a.tmps.size := by rw [hJ.tmps]; exact hdst.1
          simp [Act.put, this]
        · rw [if_neg hji] at hj
          obtain ⟨v', T', h1, h2, h3⟩ := hJ.new j hj
          have hjs : j < ops.size := by
            rcases Nat.lt_or_ge j ops.size with h | h
            · exact h
            · have : ¬ j < L.size := by rw [hJ.size]; omega
              simp [this] at hj
          obtain ⟨T'', h4, h5⟩ := hg j _ (Array.getElem?_eq_getElem hjs)
          rw [h1] at h4; cases h4
          have hmay : mayFollow ops j i = true := by
            simp only [mayFollow, Bool.and_eq_true, Bool.not_eq_true', beq_eq_false_iff_ne]
            refine ⟨fun e => hji e.symm, ?_⟩
            cases hw : waits ops 8 j i with
            | false => rfl
            | true => rw [waits_closed hJ.closed 8 j i hj hw] at hiF'; cases hiF'
          exact ⟨v', T', h1, by rw [hD]; exact h5.kept i hmay _ _ _ _ hE h2, fun t ht => by rw [hput j t ht hji]; exact h3 t ht⟩
      · intro p hp hLp
        rw [getD_set _ _ _ hiL] at hLp
        by_cases hpi : p.1 = i
        · rw [if_pos hpi] at hLp; cases hLp
        · rw [if_neg hpi] at hLp
          have hmay : mayFollow ops i p.1 = true := by
            simp only [mayFollow, Bool.and_eq_true, Bool.not_eq_true', beq_eq_false_iff_ne]
            refine ⟨hpi, ?_⟩
            cases hw : waits ops 8 i p.1 with
            | false => rfl
            | true =>
              simp only [waits, Array.getElem?_eq_getElem hi', Option.map_some, Option.getD_some, Array.any_eq_true', Bool.and_eq_true, Bool.or_eq_true, beq_iff_eq] at hw
              obtain ⟨e, he, hb, h⟩ := hw
              have h1 := hpre e he hb
              rcases h with h | h
              · rw [h, hLp] at h1; cases h1
              · rw [waits_closed hJ.closed 7 _ _ h1 h] at hLp; cases hLp
          exact hfs p hp i hmay _ _ hE (hJ.fact p hp hLp)
    unfold wpOp
    rw [Array.getElem?_eq_getElem hi']
    simp only []
    rcases hstep with ⟨hw, hwp⟩ | ⟨hw, hTu⟩
    · rw [if_pos hw]
      rcases hwp with hwp | hwp
      · refine .inl (Oper.wp_mono ?_ hwp)
        rintro a' w' ⟨v, rfl, hE, hTv⟩
        exact ih _ _ _ (hJ' v w' hE hTv) hcount
      · exact .inr hwp
    · rw [if_neg (by rw [hw]; simp)]
      exact ih _ _ _ (hJ' undef w (Chg.refl _ _) hTu) hcount

/-- one pass in the order of the text, the newest ahead -/
def PassR (P : Program) (ops : Array Oper) (Q : Exit → Act → World → Prop) (a0 : Act) (w0 : World) (n0 : Nat) (zs : Zs) (fs : Fs) (E : List KdL → Prop) : List Oper → List KdL → Prop
  | [], Rs => E Rs.reverse
  | o :: rest, Rs => ∃ T, Good P ops Q a0 w0 n0 zs fs Rs.reverse Rs.length o T ∧ PassR P ops Q a0 w0 n0 zs fs E rest (T :: Rs)

theorem pass_get {E : List KdL → Prop} : ∀ (l : List Oper) (Rs : List KdL), PassR P ops Q a0 w0 n0 zs fs E l Rs →
    ∃ Us, E (Rs.reverse ++ Us) ∧ Us.length = l.length ∧ ∀ i o, l[i]? = some o → ∃ T, Us[i]? = some T ∧ Good P ops Q a0 w0 n0 zs fs (Rs.reverse ++ Us.take i) (Rs.length + i) o T
  | [], Rs, h => ⟨[], by simpa [PassR] using h, rfl, fun i o h => by simp at h⟩
  | o :: rest, Rs, ⟨T, hg, hp⟩ => by
    obtain ⟨Us, hE, hl, hU⟩ := pass_get rest (T :: Rs) hp
    refine ⟨T :: Us, by simpa using hE, by simp [hl], fun i o' hi => ?_⟩
    cases i with
    | zero =>
      simp at hi; subst hi
      exact ⟨T, rfl, by simpa using hg⟩
    | succ i =>
      simp at hi
      obtain ⟨T', h1, h2⟩ := hU i o' hi
      refine ⟨T', by simpa using h1, ?_⟩
      have e : (T :: Rs).reverse ++ Us.take i = Rs.reverse ++ (T :: Us).take (i + 1) := by simp
      have e2 : (T :: Rs).length + i = Rs.length + (i + 1) := by simp; omega
      rw [e, e2] at h2; exact h2

theorem wp_region_flow {id : Nat} (n0 : Nat) (zs : Zs) (fs : Fs) (hm : P.follows .mixedOrders = true) (hs : Reg.shape ops a0.tmps.size = true) (hn0 : n0 ≤ w0.heap.size) (hzs : ∀ p ∈ zs, ∀ b, p.2 b → n0 ≤ b)
    (hfs : ∀ p ∈ fs, p.2 w0.drew ∧ ∀ k, mayFollow ops k p.1 = true → Kept (zone zs k) p.2)
    (h : PassR P ops Q a0 w0.drew n0 zs fs (fun Ts => ∀ a w, Final ops a0 w0.drew n0 fs Ts a w → Q .normal a w) ops.toList []) : (Code.region id ops true).wp P Q a0 w0 := by
  obtain ⟨Ts, hend, hl, hg⟩ := pass_get _ _ h
  simp only [List.reverse_nil, List.nil_append, List.length_nil, Nat.zero_add] at hend hg
  refine wp_region_any hm (step_any (w0 := w0.drew) (n0 := n0) (fs := fs) hs hn0 hzs (fun p hp => (hfs p hp).2) (fun i o hi => hg i o (by simpa using hi)) hend _ _ _ _
    ⟨by simp, ?_, rfl, rfl, Below.refl _ _, fun t _ => rfl, ?_, fun p hp _ => (hfs p hp).1⟩ (Nat.le_trans (List.length_filter_le _ _) (by simp)))
  · intro j o hj
    exfalso
    by_cases h : j < ops.size <;> simp [h] at hj
  · intro j hj
    exfalso
    by_cases h : j < ops.size <;> simp [h] at hj

/-! ### What is kept -/
/-- the two lists' obligations, an operation each -/
theorem facts_nil : ∀ p ∈ ([] : Fs), p.2 w0 ∧ ∀ k, mayFollow ops k p.1 = true → Kept (zone zs k) p.2 := fun _ h => by cases h
theorem facts_cons {i : Nat} {F : World → Prop} {fs : Fs} (h0 : F w0) (he : Kept (fun _ => False) F) (hz : ∀ p ∈ zs, mayFollow ops p.1 i = true → Kept p.2 F)
    (h : ∀ p ∈ fs, p.2 w0 ∧ ∀ k, mayFollow ops k p.1 = true → Kept (zone zs k) p.2) : ∀ p ∈ (i, F) :: fs, p.2 w0 ∧ ∀ k, mayFollow ops k p.1 = true → Kept (zone zs k) p.2 := by
  intro p hp
  rcases List.mem_cons.1 hp with rfl | hp
  · exact ⟨h0, fun k hk => zone_kept (R := fun Z => Kept Z F) zs (fun k => mayFollow ops k i) he hz k hk⟩
  · exact h p hp
theorem zs_cons {R : Nat → (Nat → Prop) → Prop} {i : Nat} {Z : Nat → Prop} {zs : Zs} (h0 : R i Z) (h : ∀ p ∈ zs, R p.1 p.2) : ∀ p ∈ (i, Z) :: zs, R p.1 p.2 := by
  intro p hp
  rcases List.mem_cons.1 hp with rfl | hp
  · exact h0
  · exact h p hp
theorem no_follow {ops : Array Oper} {i k : Nat} {R : Prop} (h : mayFollow ops i k = false) : mayFollow ops i k = true → R := fun h' => by rw [h] at h'; cases h'
theorem kept_blk {Z : Nat → Prop} {g : Nat} {t : TypeId} {cs : Array Value} (h : ¬ Z g) : Kept Z (fun W => Blk W g t cs) := fun _ _ c hb => hb.chg c h
theorem kept_own {Z : Nat → Prop} {base size n : Nat} {e : TypeId} {v : Value} {xs : List Value} (h : ∀ k, v.ownBlock = some k → ¬ Z k) : Kept Z (fun W => W.ownsRow base e size v n xs) := fun _ _ c ho => own_chg ho c h
theorem nz_nil {n : Nat} : ∀ p ∈ ([] : Zs), ∀ b, p.2 b → n ≤ b := fun _ h => by cases h
theorem nz_cons {n j : Nat} {Z : Nat → Prop} {zs : Zs} (h0 : ∀ b, Z b → n ≤ b) (h : ∀ p ∈ zs, ∀ b, p.2 b → n ≤ b) : ∀ p ∈ (j, Z) :: zs, ∀ b, p.2 b → n ≤ b := zs_cons (R := fun _ Z => ∀ b, Z b → n ≤ b) h0 h
theorem fz_nil {ops : Array Oper} {i : Nat} {F : World → Prop} : ∀ p ∈ ([] : Zs), mayFollow ops p.1 i = true → Kept p.2 F := fun _ h => by cases h
theorem fz_cons {ops : Array Oper} {i j : Nat} {F : World → Prop} {Z : Nat → Prop} {zs : Zs} (h0 : mayFollow ops j i = true → Kept Z F) (h : ∀ p ∈ zs, mayFollow ops p.1 i = true → Kept p.2 F) :
    ∀ p ∈ (j, Z) :: zs, mayFollow ops p.1 i = true → Kept p.2 F := zs_cons (R := fun j Z => mayFollow ops j i = true → Kept Z F) h0 h
theorem kz_nil {ops : Array Oper} {i : Nat} {T : Kd} : ∀ p ∈ ([] : Zs), mayFollow ops i p.1 = true → KeptK p.2 T := fun _ h => by cases h
theorem kz_cons {ops : Array Oper} {i j : Nat} {T : Kd} {Z : Nat → Prop} {zs : Zs} (h0 : mayFollow ops i j = true → KeptK Z T) (h : ∀ p ∈ zs, mayFollow ops i p.1 = true → KeptK p.2 T) :
    ∀ p ∈ (j, Z) :: zs, mayFollow ops i p.1 = true → KeptK p.2 T := zs_cons (R := fun j Z => mayFollow ops i j = true → KeptK Z T) h0 h
theorem kept_eqs (X : Value) (Z : Nat → Prop) : KeptK Z (eqs X) := fun _ _ _ _ h => h
theorem kept_of {T : Kd} {i : Nat} (he : KeptK (fun _ => False) T) (h : ∀ p ∈ zs, mayFollow ops i p.1 = true → KeptK p.2 T) : ∀ k, mayFollow ops i k = true → KeptK (zone zs k) T :=
  fun k hk => zone_kept (R := fun Z => KeptK Z T) zs (fun k => mayFollow ops i k) he h k hk

/-- a kind that lapses when one of ks is done -/
def lin (ks : List Nat) (S : Kd) : KdL := fun D v w => (∀ k ∈ ks, D k = false) → S v w
theorem kept_lin {S : Kd} {i : Nat} (ks : List Nat) (he : KeptK (fun _ => False) S) (h : ∀ p ∈ zs, mayFollow ops i p.1 = true → ks.elem p.1 = true ∨ KeptK p.2 S) : ∀ k, mayFollow ops i k = true → KeptL k (zone zs k) (lin ks S) := by
  intro k hk
  by_cases hks : k ∈ ks
  · intro D v w w' c hT hD
    have := hD k hks
    simp [setD] at this
  · have h1 := zone_kept (R := fun Z => KeptK Z S) zs (fun k => mayFollow ops i k && !ks.elem k) he (fun p hp ho => by
      simp only [Bool.and_eq_true, Bool.not_eq_true'] at ho
      rcases h p hp ho.1 with h2 | h2
      · rw [h2] at ho; cases ho.2
      · exact h2) k (by simp [hk, hks])
    intro D v w w' c hT hD
    refine h1 v w w' c (hT fun j hj => ?_)
    have := hD j hj
    unfold setD at this
    split at this
    · cases this
    · exact this
theorem lz_nil {ops : Array Oper} {i : Nat} {ks : List Nat} {S : Kd} : ∀ p ∈ ([] : Zs), mayFollow ops i p.1 = true → ks.elem p.1 = true ∨ KeptK p.2 S := fun _ h => by cases h
theorem lz_cons {ops : Array Oper} {i j : Nat} {ks : List Nat} {S : Kd} {Z : Nat → Prop} {zs : Zs} (h0 : mayFollow ops i j = true → ks.elem j = true ∨ KeptK Z S) (h : ∀ p ∈ zs, mayFollow ops i p.1 = true → ks.elem p.1 = true ∨ KeptK p.2 S) :
    ∀ p ∈ (j, Z) :: zs, mayFollow ops i p.1 = true → ks.elem p.1 = true ∨ KeptK p.2 S := zs_cons (R := fun j Z => mayFollow ops i j = true → ks.elem j = true ∨ KeptK Z S) h0 h

/-! ### The steps -/
variable {E : List KdL → Prop} {rest : List Oper} {Rs : List KdL} {o : Oper}

abbrev H (ops : Array Oper) (a0 : Act) (w0 : World) (n0 : Nat) (fs : Fs) (Rs : List KdL) (o : Oper) (a : Act) (w : World) : Prop := Hands ops a0 w0 n0 fs Rs.reverse Rs.length o a w
/-- the guard of an operation is met -/
def Met (ops : Array Oper) (Rs : List KdL) (a0 : Act) (o : Oper) : Prop :=
  ∀ a w, (∀ t ∈ o.looksAt ops, SeesL ops Rs.reverse a0 Rs.length a w t) → Region.wanted o (yielded ops a.tmps) = true
theorem met_none (h : o.guard = none) : Met ops Rs a0 o := fun a w _ => by simp [Region.wanted, h]

theorem see_up (t j : Nat) {T : Kd} {a : Act} {w : World} (hS : ∀ t ∈ o.looksAt ops, SeesL ops Rs.reverse a0 Rs.length a w t) (hl : (o.looksAt ops).elem t = true) (hw : writer ops t = some j)
    (hj : decide (j < Rs.length) = true) (hT : Rs.reverse[j]? = some (up T)) : T (a.tmps[t]?.getD undef) w := by
  have := hS t (List.mem_of_elem_eq_true hl)
  unfold SeesL at this
  rw [hw] at this
  simp only [] at this
  rw [if_pos (of_decide_eq_true hj)] at this
  obtain ⟨v, T', D, h1, h2, _, h3⟩ := this
  rw [hT] at h1; cases h1
  rw [h2]; exact h3
theorem see_new (t j : Nat) {X : Value} {a : Act} {w : World} (hS : ∀ t ∈ o.looksAt ops, SeesL ops Rs.reverse a0 Rs.length a w t) (hl : (o.looksAt ops).elem t = true) (hw : writer ops t = some j)
    (hj : decide (j < Rs.length) = true) (hT : Rs.reverse[j]? = some (up (eqs X))) : a.tmps[t]?.getD undef = X := see_up t j hS hl hw hj hT
/-- what an operation without a slot left, of one kind for the operations that wait for it -/
theorem past_lin (j : Nat) {ks : List Nat} {S : Kd} {w : World} (hp : ∀ j, j < Rs.length → behind ops Rs.length j = true → ∃ v T D, Rs.reverse[j]? = some T ∧ (D Rs.length = false ∧ ∀ k, waits ops 8 k Rs.length = true → D k = false) ∧ T D v w)
    (hb : behind ops Rs.length j = true) (hj : decide (j < Rs.length) = true) (hT : Rs.reverse[j]? = some (lin ks S)) (hks : (ks.all fun k => k == Rs.length || waits ops 8 k Rs.length) = true) : ∃ v, S v w := by
  obtain ⟨v, T', D, h1, ⟨h4, h5⟩, h3⟩ := hp j (of_decide_eq_true hj) hb
  rw [hT] at h1; cases h1
  refine ⟨v, h3 fun k hk => ?_⟩
  have h6 := (List.all_eq_true.1 hks) k hk
  simp only [Bool.or_eq_true, beq_iff_eq] at h6
  rcases h6 with h6 | h6
  · rw [h6]; exact h4
  · exact h5 k h6
theorem see_lin (t j : Nat) {ks : List Nat} {S : Kd} {a : Act} {w : World} (hS : ∀ t ∈ o.looksAt ops, SeesL ops Rs.reverse a0 Rs.length a w t) (hl : (o.looksAt ops).elem t = true) (hw : writer ops t = some j)
    (hj : decide (j < Rs.length) = true) (hT : Rs.reverse[j]? = some (lin ks S)) (hks : (ks.all fun k => k == Rs.length || waits ops 8 k Rs.length) = true) : S (a.tmps[t]?.getD undef) w := by
  have := hS t (List.mem_of_elem_eq_true hl)
  unfold SeesL at this
  rw [hw] at this
  simp only [] at this
  rw [if_pos (of_decide_eq_true hj)] at this
  obtain ⟨v, T', D, h1, h2, ⟨h4, h5⟩, h3⟩ := this
  rw [hT] at h1; cases h1
  rw [h2]
  refine h3 fun k hk => ?_
  have := (List.all_eq_true.1 hks) k hk
  simp only [Bool.or_eq_true, beq_iff_eq] at this
  rcases this with rfl | h6
  · exact h4
  · exact h5 k h6
theorem see_old (t : Nat) {X : Value} {a : Act} {w : World} (hS : ∀ t ∈ o.looksAt ops, SeesL ops Rs.reverse a0 Rs.length a w t) (hl : (o.looksAt ops).elem t = true)
    (hw : (writer ops t).all (fun j => decide (¬ j < Rs.length)) = true) (hX : a0.tmps.getD t undef = X) : a.tmps[t]?.getD undef = X := by
  have := hS t (List.mem_of_elem_eq_true hl)
  unfold SeesL at this
  have h : a.tmps[t]? = a0.tmps[t]? := by
    cases hw' : writer ops t with
    | none => rw [hw'] at this; exact this
    | some j =>
      rw [hw'] at this hw
      simp only [Option.all_some, decide_eq_true_eq] at hw
      simp only [] at this
      rw [if_neg hw] at this
      exact this
  rw [← hX]
  simp only [Array.getD_eq_getD_getElem?, ← h]
theorem met_some (g : Nat) (b : Bool) (t : Tmp) (h : o.guard = some (g, b)) (hd : (ops[g]?).bind (·.dst) = some t) (hw : writer ops t = some g) (hl : (o.looksAt ops).elem t = true)
    (hg : decide (g < Rs.length) = true) (hT : Rs.reverse[g]? = some (up (eqs (.bool b)))) : Met ops Rs a0 o := fun a w hS => by
  have h3 := see_new t g hS hl hw hg hT
  cases hx : a.tmps[t]? with
  | none => rw [hx] at h3; simp [undef] at h3
  | some v =>
    rw [hx] at h3
    simp at h3
    subst h3
    simp [Region.wanted, h, yielded, hd, hx]

theorem pass_lin (ks : List Nat) (S : Kd) (hkept : ∀ k, mayFollow ops Rs.length k = true → KeptL k (zone zs k) (lin ks S)) (hm : Met ops Rs a0 o)
    (h : ∀ a w, H ops a0 w0 n0 fs Rs o a w → OpWp P o a w (fun a' w' => ∃ v, a' = a.put o.dst v ∧ Chg (zone zs Rs.length) w w' ∧ S v w') Q)
    (k : PassR P ops Q a0 w0 n0 zs fs E rest (lin ks S :: Rs)) : PassR P ops Q a0 w0 n0 zs fs E (o :: rest) Rs :=
  ⟨lin ks S, ⟨hkept, fun a w hH => .inl ⟨hm a w hH.sees, (h a w hH).imp (Oper.wp_mono fun _ _ ⟨v, h1, h2, h3⟩ => ⟨v, h1, h2, fun _ _ => h3⟩) id⟩⟩, k⟩
theorem pass_gen (T : Kd) (hkept : ∀ k, mayFollow ops Rs.length k = true → KeptK (zone zs k) T) (hm : Met ops Rs a0 o)
    (h : ∀ a w, H ops a0 w0 n0 fs Rs o a w → OpWp P o a w (fun a' w' => ∃ v, a' = a.put o.dst v ∧ Chg (zone zs Rs.length) w w' ∧ T v w') Q)
    (k : PassR P ops Q a0 w0 n0 zs fs E rest (up T :: Rs)) : PassR P ops Q a0 w0 n0 zs fs E (o :: rest) Rs :=
  ⟨up T, ⟨fun k hk => keptL_up (hkept k hk), fun a w hH => .inl ⟨hm a w hH.sees, (h a w hH).imp (Oper.wp_mono fun _ _ ⟨v, h1, h2, h3⟩ => ⟨v, h1, h2, fun _ => h3⟩) id⟩⟩, k⟩
/-- an operation that only makes memory -/
theorem pass_step (T : Kd) (hkept : ∀ k, mayFollow ops Rs.length k = true → KeptK (zone zs k) T) (hm : Met ops Rs a0 o)
    (h : ∀ a w, H ops a0 w0 n0 fs Rs o a w → o.wp P a w (fun a' w' => ∃ v, a' = a.put o.dst v ∧ Ext w w' ∧ T v w') Q)
    (k : PassR P ops Q a0 w0 n0 zs fs E rest (up T :: Rs)) : PassR P ops Q a0 w0 n0 zs fs E (o :: rest) Rs :=
  pass_gen T hkept hm (fun a w hH => .inl (Oper.wp_mono (fun _ _ ⟨v, h1, h2, h3⟩ => ⟨v, h1, Chg.of_ext h2, h3⟩) (h a w hH))) k
/-- an operation that comes to a value that is known, and changes nothing -/
theorem pass_val (X : Value) (hm : Met ops Rs a0 o)
    (h : ∀ a w, H ops a0 w0 n0 fs Rs o a w → (execOp a.eval o).run P w = .ok (.value X) w)
    (k : PassR P ops Q a0 w0 n0 zs fs E rest (up (eqs X) :: Rs)) : PassR P ops Q a0 w0 n0 zs fs E (o :: rest) Rs :=
  pass_step (eqs X) (fun _ _ => kept_eqs X _) hm (fun a w hH => by
    unfold Oper.wp
    rw [h a w hH]
    exact ⟨X, rfl, Ext.refl _, rfl⟩) k
/-- an operation that is not wanted -/
theorem pass_skip (hm : ∀ a w, H ops a0 w0 n0 fs Rs o a w → Region.wanted o (yielded ops a.tmps) = false)
    (k : PassR P ops Q a0 w0 n0 zs fs E rest (up (eqs undef) :: Rs)) : PassR P ops Q a0 w0 n0 zs fs E (o :: rest) Rs :=
  ⟨up (eqs undef), ⟨fun _ _ => keptL_up (kept_eqs _ _), fun a w hH => .inr ⟨hm a w hH, fun _ => rfl⟩⟩, k⟩
theorem not_wanted (g : Nat) (b : Bool) (t : Tmp) {a : Act} {w : World} (hH : H ops a0 w0 n0 fs Rs o a w) (h : o.guard = some (g, b)) (hd : (ops[g]?).bind (·.dst) = some t) (hw : writer ops t = some g) (hl : (o.looksAt ops).elem t = true)
    (hg : decide (g < Rs.length) = true) (hT : Rs.reverse[g]? = some (up (eqs (.bool !b)))) : Region.wanted o (yielded ops a.tmps) = false := by
  have h3 := see_new t g hH.sees hl hw hg hT
  cases hx : a.tmps[t]? with
  | none => rw [hx] at h3; simp [undef] at h3
  | some v =>
    rw [hx] at h3
    simp at h3
    subst h3
    cases b <;> simp [Region.wanted, h, yielded, hd, hx]
/-- a move of what an operation of this region left -/
theorem pass_copy (t j : Nat) {T : Kd} (hm : Met ops Rs a0 o) (ho : o.op = .move (.tmp t) ∨ o.op = .assign (.tmp t)) (hl : (o.looksAt ops).elem t = true) (hw : writer ops t = some j)
    (hj : decide (j < Rs.length) = true) (hT : Rs.reverse[j]? = some (up T)) (hst : ∀ k, mayFollow ops Rs.length k = true → KeptK (zone zs k) T)
    (k : PassR P ops Q a0 w0 n0 zs fs E rest (up T :: Rs)) : PassR P ops Q a0 w0 n0 zs fs E (o :: rest) Rs :=
  pass_step T hst hm (fun a w hH => by
    have h1 := see_up t j hH.sees hl hw hj hT
    have hrun : (execOp a.eval o).run P w = .ok (.value (a.tmps[t]?.getD undef)) w := by
      rcases ho with h | h <;> simp [execOp, h, Act.eval]
    unfold Oper.wp
    rw [hrun]
    exact ⟨_, rfl, Ext.refl _, h1⟩) k
/-- a move of a slot as it stood ahead of the region -/
theorem pass_old (t : Nat) {X : Value} (hm : Met ops Rs a0 o) (ho : o.op = .move (.tmp t) ∨ o.op = .assign (.tmp t)) (hl : (o.looksAt ops).elem t = true)
    (hw : (writer ops t).all (fun j => decide (¬ j < Rs.length)) = true) (hX : a0.tmps.getD t undef = X)
    (k : PassR P ops Q a0 w0 n0 zs fs E rest (up (eqs X) :: Rs)) : PassR P ops Q a0 w0 n0 zs fs E (o :: rest) Rs :=
  pass_val X hm (fun a w hH => by
    have h1 := see_old t hH.sees hl hw hX
    rcases ho with h | h <;> simp [execOp, h, Act.eval, h1]) k
/-- a call that changes only blocks that it may -/
theorem wp_callZ {Z : Nat → Prop} {T : Kd} {f : FuncId} {fn : Func} {c : Code} {args : Array Operand} {tys : Array TypeId} {vals : Array Value} {a : Act} {w : World} {R : Ending → World → Prop}
    (ho : o.op = .call { callee := .value (.func f), args := args, argTypes := tys }) (hf : P.funcs[f]? = some fn) (hb : fn.body = some c) (hname : (fn.name == "runtime.NumGoroutine") = false)
    (hv : args.map a.eval = vals) (h : Calls P f vals w R) (hR : ∀ e w', R e w' → ∃ v, e = .returned v ∧ Chg Z w w' ∧ T v w') :
    OpWp P o a w (fun a' w' => ∃ v, a' = a.put o.dst v ∧ Chg Z w w' ∧ T v w') Q :=
  .inl (Reg.wp_call ho hf hb hname hv h fun e w' hr => by
    obtain ⟨v, rfl, h1, h2⟩ := hR e w' hr
    exact ⟨v, rfl, v, rfl, h1, h2⟩)
/-- a call of a function value (a closure's captures follow its arguments) -/
theorem wp_callF {Z : Nat → Prop} {T : Kd} {f : FuncId} {fn : Func} {c : Code} {x : Tmp} {args : Array Operand} {tys : Array TypeId} {caps vals : Array Value} {a : Act} {w : World} {R : Ending → World → Prop}
    (ho : o.op = .call { callee := .value (.tmp x), args := args, argTypes := tys }) (hx : a.tmps[x]?.getD undef = .func (.func f) #[] caps) (hf : P.funcs[f]? = some fn) (hb : fn.body = some c) (hname : (fn.name == "runtime.NumGoroutine") = false)
    (hv : args.map a.eval ++ caps = vals) (h : Calls P f vals w R) (hR : ∀ e w', R e w' → ∃ v, e = .returned v ∧ Chg Z w w' ∧ T v w') :
    OpWp P o a w (fun a' w' => ∃ v, a' = a.put o.dst v ∧ Chg Z w w' ∧ T v w') Q := by
  have h1 : fn.name ≠ "runtime.NumGoroutine" := by simpa using hname
  have hrun : (execOp a.eval o).run P w = .ok (.enter f vals) w := by
    simp [execOp, ho, resolve, Act.eval, hx, Deferred.ofValue, invoke, callFunc, hf, h1, hb]
    exact hv
  refine .inl ?_
  unfold Oper.wp
  rw [hrun]
  refine Calls.mono h fun e w' hr => ?_
  obtain ⟨v, rfl, h1, h2⟩ := hR e w' hr
  exact ⟨v, rfl, h1, h2⟩

/-- a law of a row of operations, used for one operation of a region -/
def QQ (K : Act → World → Prop) (Q : Exit → Act → World → Prop) : Exit → Act → World → Prop
  | .normal, a, w => K a w
  | e, a, w => Q e a w
theorem wp_QQ {a : Act} {w : World} {K K' : Act → World → Prop} (h : o.wp P a w K (QQ K' Q)) : o.wp P a w K Q := by
  unfold Oper.wp at *
  generalize (execOp a.eval o).run P w = r at *
  cases r with
  | ok n w' =>
    cases n <;> simp only [Oper.upon] at h ⊢
    all_goals first
      | exact h
      | exact Calls.mono h (fun e w'' he => by cases e <;> first | exact he | (obtain ⟨a, w, h⟩ := he; exact ⟨a, w, h⟩))
  | halt x w' => cases x <;> simp only [Oper.upon] at h ⊢ <;> exact h
theorem of_list {K : Act → World → Prop} {a : Act} {w : World} (hw : Region.wanted o (yielded ops a.tmps) = true) (h : wpList P ops (QQ K Q) [o] a w) : OpWp P o a w K Q := by
  unfold wpList at h
  rw [if_pos hw] at h
  rcases h with h | ⟨h1, h2⟩
  · exact .inl (wp_QQ (Oper.wp_mono (fun _ _ h => h) h))
  · exact .inr ⟨h1, by obtain ⟨a, w, h⟩ := h2; exact ⟨a, w, h⟩⟩
theorem pass_list (T : Kd) (hkept : ∀ k, mayFollow ops Rs.length k = true → KeptK (zone zs k) T) (hm : Met ops Rs a0 o)
    (h : ∀ a w, H ops a0 w0 n0 fs Rs o a w → wpList P ops (QQ (fun a' w' => ∃ v, a' = a.put o.dst v ∧ Chg (zone zs Rs.length) w w' ∧ T v w') Q) [o] a w)
    (k : PassR P ops Q a0 w0 n0 zs fs E rest (up T :: Rs)) : PassR P ops Q a0 w0 n0 zs fs E (o :: rest) Rs :=
  pass_gen T hkept hm (fun a w hH => of_list (hm a w hH.sees) (h a w hH)) k
theorem pass_linlist (ks : List Nat) (S : Kd) (hkept : ∀ k, mayFollow ops Rs.length k = true → KeptL k (zone zs k) (lin ks S)) (hm : Met ops Rs a0 o)
    (h : ∀ a w, H ops a0 w0 n0 fs Rs o a w → wpList P ops (QQ (fun a' w' => ∃ v, a' = a.put o.dst v ∧ Chg (zone zs Rs.length) w w' ∧ S v w') Q) [o] a w)
    (k : PassR P ops Q a0 w0 n0 zs fs E rest (lin ks S :: Rs)) : PassR P ops Q a0 w0 n0 zs fs E (o :: rest) Rs :=
  pass_lin ks S hkept hm (fun a w hH => of_list (hm a w hH.sees) (h a w hH)) k
theorem qq_nil {K : Act → World → Prop} {a : Act} {w : World} (h : K a w) : wpList P ops (QQ K Q) [] a w := h

/-- bytes, and their slice's form -/
def bytesC (n : Nat) (L : List UInt8) : Kd := fun v w => ∃ A c, v = .slice A n c ∧ n ≤ c ∧ Rd w w.heap.size 1 A n (bcells L)
theorem kept_bytesC (n : Nat) (L : List UInt8) : KeptK (fun _ => False) (bytesC n L) := fun _ _ _ c ⟨A, k, h1, h2, h3⟩ => ⟨A, k, h1, h2, h3.ext c.ext⟩
theorem own_le {w : World} {base : Nat} {e : TypeId} {size : Nat} {A : Option Addr} {n c : Nat} {xs : List Value} (h : w.ownsRow base e size (.slice A n c) n xs) : n ≤ c := by
  rcases h.2 with ⟨e1, _⟩ | ⟨g, cap, cur, e1, _, _, h4, _⟩
  · injection e1 with _ e1 e2; omega
  · injection e1 with _ _ e2; omega
theorem reg_build {a : Act} {w : World} {ty : TypeId} {parts : Array (Nat × Operand)} {X : Value} (vs : Array (Nat × Value)) (ho : o.op = .build ty parts) (he : (parts.map fun (i, x) => (i, a.eval x)) = vs)
    (h : (Instr.build ty vs).run P w = .ok X w) : (execOp a.eval o).run P w = .ok (.value X) w := by
  subst he
  simp [execOp, ho, h]
theorem reg_buildSlice {a : Act} {w w' : World} {ty : TypeId} {n : Nat} {parts : Array (Nat × Operand)} {X : Value} (vs : Array (Nat × Value)) (ho : o.op = .buildSlice ty n parts) (he : (parts.map fun (i, x) => (i, a.eval x)) = vs)
    (h : (Instr.buildSlice ty n vs).run P w = .ok X w') : (execOp a.eval o).run P w = .ok (.value X) w' := by
  subst he
  simp [execOp, ho, h]
theorem wp_run {a : Act} {w w' : World} {v : Value} {K : Act → World → Prop} (h : (execOp a.eval o).run P w = .ok (.value v) w') (hK : K (a.put o.dst v) w') : OpWp P o a w K Q := by
  refine .inl ?_
  unfold Oper.wp
  rw [h]
  exact hK
/-! The slots behind the region -/
theorem pass_end {Ts : List KdL} (M : List (Option Tmp)) (hM : (List.range a0.tmps.size).map (fun t => if (writer ops t).isSome then some t else none) = M)
    (h : ∀ (f : Tmp → Value) (g : Nat → Value) (w : World), Below n0 w0 w → (∀ p ∈ fs, ops.size ≤ p.1 → p.2 w) → (∀ j T, decide (j < ops.size) = true → Ts[j]? = some (up T) → T (g j) w) → (∀ t j, writer ops t = some j → f t = g j) →
      Q .normal ⟨(sel f M a0.tmps.toList).toArray, a0.defers⟩ w) :
    ∀ a w, Final ops a0 w0 n0 fs Ts a w → Q .normal a w := by
  intro a w hF
  have ha : (⟨(sel (fun t => a.tmps[t]?.getD undef) M a0.tmps.toList).toArray, a0.defers⟩ : Act) = a := by
    have e1 : (sel (fun t => a.tmps[t]?.getD undef) M a0.tmps.toList).toArray = a.tmps := by
      have hML : M.length = a0.tmps.toList.length := by rw [← hM]; simp
      apply Array.ext_getElem?
      intro k
      simp only [List.getElem?_toArray]
      by_cases hk : k < a0.tmps.toList.length
      · rw [sel_get _ _ _ _ hk hML, ← hM]
        have hk' : k < a0.tmps.size := by simpa using hk
        have hka : k < a.tmps.size := by rw [hF.tmps]; exact hk'
        simp only [List.getElem?_map, List.getElem?_range hk', Option.map_some]
        cases hw : writer ops k with
        | none => simp only [Option.isSome_none, Bool.false_eq_true, if_false]; rw [hF.old k hw]; simp
        | some j => simp [hka]
      · rw [List.getElem?_eq_none (by rw [sel_length]; omega), Array.getElem?_eq_none (by rw [hF.tmps]; simpa using hk)]
    cases a
    simp only [Act.mk.injEq]
    exact ⟨e1, hF.defers.symm⟩
  have hch : ∀ j, ∃ v, j < ops.size → ∃ T D, Ts[j]? = some T ∧ T D v w ∧ ∀ t, writer ops t = some j → a.tmps[t]? = some v := by
    intro j
    by_cases hj : j < ops.size
    · obtain ⟨v, T, D, h1, h2, h3⟩ := hF.new j hj
      exact ⟨v, fun _ => ⟨T, D, h1, h2, h3⟩⟩
    · exact ⟨undef, fun h => absurd h hj⟩
  have := h (fun t => a.tmps[t]?.getD undef) (fun j => Classical.choose (hch j)) w hF.below hF.fact (by
    intro j T hj hT
    obtain ⟨T', D, h1, h2, _⟩ := Classical.choose_spec (hch j) (of_decide_eq_true hj)
    rw [hT] at h1; cases h1; exact h2) (by
    intro t j hw
    obtain ⟨T', _, _, _, h3⟩ := Classical.choose_spec (hch j) (writer_some hw).1
    rw [h3 t hw]; rfl)
  rw [ha] at this
  exact this
end
end Flow
end Go.Proofs.YtipdmhppadapkaaGreatDoor
/-
  Whole values stored into, and loaded out of, blocks that are known whole; results that lie in a cell.
-/
namespace Go.Proofs.YtipdmhppadapkaaGreatDoor
open Go.RowKit

theorem splice_nil {α : Type} (L : List α) (o : Nat) : splice L o [] = L := by simp [splice]
theorem splice_cons {α : Type} (L : List α) (o : Nat) (v : α) (r : List α) (h : o < L.length) : splice (L.set o v) (o + 1) r = splice L o (v :: r) := by
  have e : (L.set o v).take (o + 1) = L.take o ++ [v] := by
    rw [List.take_succ_eq_append_getElem (by simpa using h), List.take_set_of_le (Nat.le_refl _)]; simp
  simp only [splice, List.length_cons, e, show o + 1 + r.length = o + (r.length + 1) by omega]
  rw [List.drop_set_of_lt (by omega)]
  simp
theorem splice_all {α : Type} (L cs : List α) (h : cs.length = L.length) : splice L 0 cs = cs := by simp [splice, h]

theorem Blk.setCells {g : Nat} {t : TypeId} : ∀ (vs : List Value) (o : Nat) (w : World) (cur : Array Value), Blk w g t cur → o + vs.length ≤ cur.size →
    Blk (w.setCells g o vs) g t (splice cur.toList o vs).toArray ∧ w.grownBy (w.setCells g o vs) (some g) ∧ (w.setCells g o vs).heap.size = w.heap.size
  | [], o, w, cur, h, _ => by rw [splice_nil]; exact ⟨h, World.grownBy.refl _ _, rfl⟩
  | v :: r, o, w, cur, h, hl => by
    simp only [List.length_cons] at hl
    obtain ⟨h1, h2, h3⟩ := Blk.setCells r (o + 1) (w.setCell ⟨g, o, none⟩ v) (cur.setIfInBounds o v) (h.set_ o v) (by simp; omega)
    rw [Array.toList_setIfInBounds, splice_cons _ _ _ _ (by simp; omega)] at h1
    have hg : w.grownBy (w.setCell ⟨g, o, none⟩ v) (some g) := ⟨rfl, rfl, rfl, by simp, fun k _ hk => heap_setCell_other w ⟨g, o, none⟩ k v (fun e => hk (by simp [e]))⟩
    exact ⟨h1, hg.trans h2, h3.trans (by simp)⟩

theorem Blk.there {w : World} {g : Nat} {t : TypeId} {cs : Array Value} (h : Blk w g t cs) (o n : Nat) (hn : o + n ≤ cs.size) : w.there g o n := fun j hj => by
  have hc := h.cell (o + j)
  rw [Array.getElem?_eq_getElem (by omega)] at hc
  exact ⟨by rw [hc]; rfl, h.frozen _⟩

section
variable {P : Program} {ops : Array Oper} {rest : List Oper} {o : Oper} {a : Act} {Q : Exit → Act → World → Prop}
/-- a whole value goes into a part of a block that is known whole -/
theorem wpList_storeBlk (w : World) (hgd : o.guard = none) (ty : TypeId) (x y : Operand) (ho : o.op = .store ty x y) (g off : Nat) (te : TypeId) (cur cells : Array Value) (hb : Blk w g te cur)
    (hx : a.eval x = .pointer (some ⟨g, off, none⟩)) (hy : a.eval y = .agg cells) (hfit : off + cells.size ≤ cur.size) (hi : (P.info? ty).map (·.size) = some cells.size) (h1 : ∀ v ∈ cells.toList, v.oneCell' = true)
    (h : ∀ w', Blk w' g te (splice cur.toList off cells.toList).toArray → w.grownBy w' (some g) → w'.heap.size = w.heap.size → wpList P ops Q rest (a.put o.dst undef) w') : wpList P ops Q (o :: rest) a w := by
  refine wpList_store_mid hgd ty x y ho g off cells hx hy (hb.there off cells.size hfit) hi (by rw [Array.all_eq_true]; intro i hi; exact h1 _ (by simp)) ?_
  obtain ⟨h2, h3, h4⟩ := Blk.setCells cells.toList off w cur hb (by simpa using hfit)
  exact h _ h2 h3 h4
/-- the whole block is written -/
theorem wpList_storeAll (w : World) (hgd : o.guard = none) (ty : TypeId) (x y : Operand) (ho : o.op = .store ty x y) (g : Nat) (te : TypeId) (cur cells : Array Value) (hb : Blk w g te cur)
    (hx : a.eval x = .pointer (some ⟨g, 0, none⟩)) (hy : a.eval y = .agg cells) (hfit : cells.size = cur.size) (hi : (P.info? ty).map (·.size) = some cells.size) (h1 : ∀ v ∈ cells.toList, v.oneCell' = true)
    (h : ∀ w', Blk w' g te cells → w.grownBy w' (some g) → w'.heap.size = w.heap.size → wpList P ops Q rest (a.put o.dst undef) w') : wpList P ops Q (o :: rest) a w :=
  wpList_storeBlk w hgd ty x y ho g 0 te cur cells hb hx hy (by omega) hi h1 (fun w' h2 h3 h4 => h w' (by rw [splice_all _ _ (by simpa using hfit)] at h2; exact h2) h3 h4)
/-- a whole value out of a block that is known whole -/
theorem wpList_loadAll (w : World) (hgd : o.guard = none) (ty : TypeId) (x : Operand) (ho : o.op = .load ty x) (g : Nat) (te : TypeId) (cells : Array Value) (hb : Blk w g te cells) (d : TypeDesc)
    (hx : a.eval x = .pointer (some ⟨g, 0, none⟩)) (hu : P.underlying ty = some d) (hd : (match d with | .struct _ | .array _ _ => true | _ => false) = true) (hi : (P.info? ty).map (·.size) = some cells.size)
    (h : wpList P ops Q rest (a.put o.dst (.agg cells)) w) : wpList P ops Q (o :: rest) a w :=
  wpList_load_row hgd ty x ho g hx te cells (0, 0) d hb hu hd hi h
theorem run_arrayAt (w : World) {t e : TypeId} {n : Nat} (ht : P.underlying t = some (.array n e)) (ad : Option Addr) (len c : Nat) (h : n ≤ len) :
    (Instr.arrayAt t (.slice ad len c)).run P w = .ok (.pointer ad) w := by
  have : ¬ len < n := by omega
  simp [Instr.arrayAt, run_underlying ht, this]
end

section
variable {P : Program} {ops : Array Oper} {rest : List Oper} {a : Act} {w : World} {Q : Exit → Act → World → Prop} {dst : Option Tmp} {ty : TypeId} {pos : String} {aft : Array Edge} {gd : Option (Nat × Bool)}
theorem at_load (t : TypeId) {x : Operand} (h : wpList P ops Q (⟨dst, .load t x, ty, pos, aft, gd⟩ :: rest) a w) : wpList P ops Q (⟨dst, .load t x, ty, pos, aft, gd⟩ :: rest) a w := h
theorem at_store (t : TypeId) {x y : Operand} (h : wpList P ops Q (⟨dst, .store t x y, ty, pos, aft, gd⟩ :: rest) a w) : wpList P ops Q (⟨dst, .store t x y, ty, pos, aft, gd⟩ :: rest) a w := h
end
theorem reg_load {P : Program} {o : Oper} {a : Act} {w : World} (ty : TypeId) (t : Tmp) (ho : o.op = .load ty (.tmp t)) {g : Nat} {te : TypeId} {cs : Array Value} (he : a.tmps[t]?.getD undef = .pointer (some ⟨g, 0, none⟩))
    (hb : Blk w g te cs) {d : TypeDesc} (hu : P.underlying ty = some d) (hd : d.isRow = true) (hi : (P.info? ty).map (·.size) = some cs.size) : (execOp a.eval o).run P w = .ok (.value (.agg cs)) w := by
  have := run_loadAt_mid (P := P) w g 0 ty cs.toList d (fun j v hv => by rw [Nat.zero_add, hb.cell]; simpa using hv) hu hd (by simpa using hi)
  simp [execOp, ho, Act.eval, he, this]

theorem Rd.range {w : World} {B size n : Nat} {A : Option Addr} {xs : List Value} (h : Rd w B size A n xs) (hn : 0 < n * size) : ∃ b off, A = some ⟨b, off, none⟩ ∧ b < B ∧ w.rangeAt b off xs := by
  obtain ⟨⟨b, off, spot⟩, rfl, hb, hc⟩ := h.cells hn
  have h0 := hc 0 _ (List.getElem?_eq_getElem (by rw [h.len]; exact hn))
  have hspot : spot = none := by simpa [Addr.add] using World.cell?_spot h0
  subst hspot
  exact ⟨b, off, rfl, hb, fun j v hv => by have := hc j v hv; rw [Addr.add_mid] at this; exact this⟩

theorem grown_below {w0 w w' : World} {B g : Nat} (h : Below B w0 w) (hg : w.grownBy w' (some g)) (hB : B ≤ w.heap.size) (hgB : B ≤ g) : Below B w0 w' :=
  h.grown hg hB (fun k e => by cases e; exact hgB)
end Go.Proofs.YtipdmhppadapkaaGreatDoor
/-
  Struct literals whose fields are whole values.
-/
namespace Go.Proofs.YtipdmhppadapkaaGreatDoor
open Go.RowKit

theorem foldl_splice (off : Nat) (cells : Array Value) (l : List Value) (h : off + l.length ≤ cells.size) :
    (l.zipIdx.foldl (fun cs (x : Value × Nat) => cs.setIfInBounds (off + x.2) x.1) cells) = (splice cells.toList off l).toArray := by
  obtain ⟨h1, h2⟩ := Great.foldl_set off l 0 cells
  apply Array.ext_getElem?
  intro k
  rw [h2 k]
  simp only [List.getElem?_toArray, splice, Nat.add_zero]
  by_cases hk : off ≤ k ∧ k < off + l.length ∧ k < cells.size
  · rw [if_pos hk, List.getElem?_append_right (by simp; omega), List.getElem?_append_left (by simp; omega)]
    simp; congr 1; omega
  · rw [if_neg hk]
    by_cases h3 : k < off
    · rw [List.getElem?_append_left (by simp; omega), List.getElem?_take, if_pos h3]; simp
    · rw [List.getElem?_append_right (by simp; omega), List.getElem?_append_right (by simp; omega), List.getElem?_drop]
      simp only [List.length_take, Array.length_toList]
      rw [Array.getElem?_toList]
      congr 1
      omega
theorem fill_splice {place : Nat → Option (Nat × Nat)} {cells : Array Value} {i off : Nat} {v : Value} {rest : List (Nat × Value)} (hp : place i = some (off, v.cells.size)) (h : off + v.cells.size ≤ cells.size) :
    Instr.fill place cells ((i, v) :: rest) = Instr.fill place (splice cells.toList off v.cells.toList).toArray rest := by
  rw [Instr.fill, hp]
  simp only [ne_eq, not_true_eq_false, decide_false, Bool.false_or, decide_eq_true_eq]
  rw [if_neg (by simp; omega)]
  congr 1
  rw [← foldl_splice off cells v.cells.toList (by simpa using h)]
  rw [← Array.toList_zipIdx, Array.foldl_toList]

def flat (vs : List Value) : List Value := vs.flatMap fun v => v.cells.toList
/-- the fields' places, one behind the other -/
def Rows1 : List (Nat × Nat) → List Value → Nat → Prop
  | _, [], _ => True
  | (o, s) :: ps, v :: vs, off => o = off ∧ v.cells.size = s ∧ Rows1 ps vs (off + s)
  | [], _ :: _, _ => False
theorem fill_rows (places : List (Nat × Nat)) : ∀ (vs : List Value) (i0 off : Nat) (cells : Array Value), Rows1 (places.drop i0) vs off → off + (flat vs).length ≤ cells.size →
    Instr.fill (places.toArray[·]?) cells ((vs.zipIdx i0).map fun x => (x.2, x.1)) = some (cells.toList.take off ++ (flat vs ++ cells.toList.drop (off + (flat vs).length))).toArray
  | [], i0, off, cells, _, _ => by simp [Instr.fill, flat]
  | v :: vs, i0, off, cells, h, hl => by
    have hfl : flat (v :: vs) = v.cells.toList ++ flat vs := by simp [flat]
    have hll : (flat (v :: vs)).length = v.cells.size + (flat vs).length := by rw [hfl]; simp
    rw [hll] at hl ⊢
    cases hd : places.drop i0 with
    | nil => rw [hd] at h; exact h.elim
    | cons p ps =>
      rw [hd] at h
      obtain ⟨o, s⟩ := p
      obtain ⟨rfl, hs, hr⟩ := h
      have hp : places.toArray[i0]? = some (o, v.cells.size) := by
        have : (places.drop i0)[0]? = some (o, s) := by rw [hd]; rfl
        rw [List.getElem?_drop] at this
        simpa [hs] using this
      have hps : places.drop (i0 + 1) = ps := by
        rw [← List.drop_drop, hd]
        rfl
      simp only [List.zipIdx_cons, List.map_cons]
      rw [fill_splice hp (by omega)]
      rw [fill_rows places vs (i0 + 1) (o + s) _ (by rw [hps]; exact hr) (by simp only [List.size_toArray]; rw [length_splice _ _ _ (by simp; omega)]; simp; omega)]
      congr 2
      rw [hfl, ← hs]
      simp only [splice]
      have e1 : (cells.toList.take o ++ (v.cells.toList ++ cells.toList.drop (o + v.cells.toList.length))).take (o + v.cells.size) = cells.toList.take o ++ v.cells.toList := by
        rw [← List.append_assoc, List.take_left' (by simp; omega)]
      have e2 : (cells.toList.take o ++ (v.cells.toList ++ cells.toList.drop (o + v.cells.toList.length))).drop (o + v.cells.size + (flat vs).length) = cells.toList.drop (o + (v.cells.size + (flat vs).length)) := by
        rw [← List.append_assoc, List.drop_append, List.drop_eq_nil_of_le (by simp; omega), List.nil_append, List.drop_drop]
        congr 1
        simp; omega
      rw [e1, e2]
      simp only [List.append_assoc]

section
variable {P : Program}
/-- a slice literal, element by element -/
theorem run_buildSlice_all (w : World) {t e : TypeId} {z : Value} {size bytes : Nat} (E : Elem P t e z size bytes) (n : Nat) (parts : Array (Nat × Value)) (vs : List Value) (hparts : parts.toList = vs.zipIdx.map fun x => (x.2, x.1)) (hn : vs.length = n) (h0 : 0 < n)
    (hsm : n * size ≤ 16777216) (h1 : ∀ v ∈ vs, v.cells.size = size) : (Instr.buildSlice t n parts).run P w = .ok (.slice (some ⟨w.heap.size, 0, none⟩) n n) (w.alloc (.cells (flat vs).toArray e)) := by
  obtain ⟨i, hi, hz, hs, _⟩ := E.info
  have hp := E.pos
  refine run_buildSlice w t e n parts _ i z E.under hi hz (by rw [hs]; omega) (by rw [hs]; exact Nat.ne_of_gt (Nat.mul_pos h0 hp)) ?_
  rw [hs, hparts]
  exact Great.fill_whole hp vs _ h1 (by simp [hn])
/-- a struct literal whose first fields are given, in order -/
theorem run_build_rows (w : World) {t : TypeId} {fields : Array Field} {z : Array Value} (parts : Array (Nat × Value)) (vs : List Value) (places : List (Nat × Nat)) (hu : P.underlying t = some (.struct fields))
    (hz : (P.info? t).map (·.zero) = some (some (.agg z))) (hp : fields.toList.mapM (fun f => (P.info? f.type).map fun i => (f.offset, i.size)) = some places)
    (hparts : parts.toList = vs.zipIdx.map fun x => (x.2, x.1)) (hr : Rows1 places vs 0) (hl : (flat vs).length ≤ z.size) :
    (Instr.build t parts).run P w = .ok (.agg (flat vs ++ z.toList.drop (flat vs).length).toArray) w := by
  refine run_build w t parts _ ?_
  obtain ⟨i, hi, hz⟩ := Option.map_eq_some_iff.1 hz
  unfold Program.built
  simp only [hi, hu, hz, hp, hparts]
  have := fill_rows places vs 0 0 z (by simpa using hr) (by omega)
  simp only [List.take_zero, List.nil_append, Nat.zero_add] at this
  simpa [Value.cells] using this
end
end Go.Proofs.YtipdmhppadapkaaGreatDoor
/-
  Rows of nodes that the call itself makes; one cell stored into a block that is known whole.
-/
namespace Go.Proofs.YtipdmhppadapkaaGreatDoor
open Go.RowKit

theorem own_ne {w : World} {base size n : Nat} {e t : TypeId} {v : Value} {xs : List Value} {g b : Nat} {cs : Array Value} (h : w.ownsRow base e size v n xs) (hb : Blk w g t cs) (hte : t ≠ e) (hv : v.ownBlock = some b) : b ≠ g := by
  rintro rfl
  rcases h.2 with ⟨rfl, _⟩ | ⟨g', cap, cur, rfl, _, hh, _⟩
  · cases hv
  · cases hv
    unfold Blk at hb
    rw [hb] at hh
    injection hh with hh
    injection hh with _ h2
    exact hte h2
theorem own_some {w : World} {base size n : Nat} {e : TypeId} {v : Value} {xs : List Value} {b : Nat} (h : w.ownsRow base e size v n xs) (hv : v.ownBlock = some b) : base ≤ b ∧ b < w.heap.size := h.lt b hv

/-- nodes one behind the other -/
def ncells (ns : List (List UInt8)) : List Value := (ns.map bcells).flatten
section
variable {P : Program} {o : Oper} {a : Act} {w : World}
/-- x.f = v, a slice -/
theorem reg_storeSlice {ty : TypeId} {x y : Tmp} (ho : o.op = .store ty (.tmp x) (.tmp y)) (hi : (P.info? ty).map (·.size) = some 1) {g off : Nat} {t : TypeId} {cs : Array Value} {A : Option Addr} {n c : Nat} (hb : Blk w g t cs)
    (hx : a.tmps[x]?.getD undef = .pointer (some ⟨g, off, none⟩)) (hy : a.tmps[y]?.getD undef = .slice A n c) (hoff : off < cs.size) : (execOp a.eval o).run P w = .ok .skip (w.setCell ⟨g, off, none⟩ (.slice A n c)) := by
  have hc := hb.cell off
  rw [Array.getElem?_eq_getElem hoff] at hc
  have hf := hb.frozen off
  obtain ⟨i, hinf, hsz⟩ := Option.map_eq_some_iff.1 hi
  have hs : (sizeOf ty).run P w = .ok 1 w := by simp [sizeOf, typeInfo, hinf, hsz]
  simp [execOp, ho, Act.eval, hx, hy, Instr.storeAt, storeCells, Value.cells, hs, go_sem, hc, hf]
theorem wp_skip {a : Act} {w w' : World} {K : Act → World → Prop} {Q : Exit → Act → World → Prop} (h : (execOp a.eval o).run P w = .ok .skip w') (hK : K (a.put o.dst undef) w') : Flow.OpWp P o a w K Q := by
  refine .inl ?_
  unfold Oper.wp
  rw [h]
  exact hK
variable {ops : Array Oper} {rest : List Oper} {Q : Exit → Act → World → Prop}
theorem wpList_runV {w w' : World} {v : Value} (hw : Region.wanted o (yielded ops a.tmps) = true) (h : (execOp a.eval o).run P w = .ok (.value v) w') (hk : wpList P ops Q rest (a.put o.dst v) w') : wpList P ops Q (o :: rest) a w :=
  wpList_step fun K hK => by
    rw [if_pos hw]
    unfold Oper.wp
    rw [h]
    exact hK _ _ hk
theorem wpList_runS {w w' : World} (hw : Region.wanted o (yielded ops a.tmps) = true) (h : (execOp a.eval o).run P w = .ok .skip w') (hk : wpList P ops Q rest (a.put o.dst undef) w') : wpList P ops Q (o :: rest) a w :=
  wpList_step fun K hK => by
    rw [if_pos hw]
    unfold Oper.wp
    rw [h]
    exact hK _ _ hk
end
section
variable {P : Program} {ops : Array Oper} {rest : List Oper} {a : Act} {w : World} {Q : Exit → Act → World → Prop} {dst : Option Tmp} {ty : TypeId} {pos : String} {aft : Array Edge} {gd : Option (Nat × Bool)}
theorem at_buildSlice (t : TypeId) {n : Nat} {parts : Array (Nat × Operand)} (h : wpList P ops Q (⟨dst, .buildSlice t n parts, ty, pos, aft, gd⟩ :: rest) a w) : wpList P ops Q (⟨dst, .buildSlice t n parts, ty, pos, aft, gd⟩ :: rest) a w := h
end
end Go.Proofs.YtipdmhppadapkaaGreatDoor
/-
  == on arrays of bytes (api.Node and its kin).
-/
namespace Go.Proofs.YtipdmhppadapkaaGreatDoor
open Go.RowKit

section
variable {P : Program}
end

theorem infNode : (Tryz.prog.info? 39).map (·.size) = some 32 := by kernel_rfl
end Go.Proofs.YtipdmhppadapkaaGreatDoor
/-
  A guarded load of a whole value.
-/
namespace Go.Proofs.YtipdmhppadapkaaGreatDoor
open Go.RowKit
section
variable {P : Program} {ops : Array Oper} {rest : List Oper} {o : Oper} {a : Act} {Q : Exit → Act → World → Prop}
theorem wpList_loadAllW (w : World) (hw : Region.wanted o (yielded ops a.tmps) = true) (ty : TypeId) (x : Operand) (ho : o.op = .load ty x) (g : Nat) (te : TypeId) (cells : Array Value) (hb : Blk w g te cells) (d : TypeDesc)
    (hx : a.eval x = .pointer (some ⟨g, 0, none⟩)) (hu : P.underlying ty = some d) (hd : (match d with | .struct _ | .array _ _ => true | _ => false) = true) (hi : (P.info? ty).map (·.size) = some cells.size)
    (h : wpList P ops Q rest (a.put o.dst (.agg cells)) w) : wpList P ops Q (o :: rest) a w :=
  wpList_step fun K hK => by
    rw [if_pos hw]
    exact wp_load_row ty x ho g hx te cells (0, 0) d hb hu hd hi (hK _ _ h)
/-- a struct literal -/
theorem wpList_buildV (w : World) (hw : Region.wanted o (yielded ops a.tmps) = true) {ty : TypeId} {parts : Array (Nat × Operand)} {X : Value} (vs : Array (Nat × Value)) (ho : o.op = .build ty parts) (he : (parts.map fun (i, x) => (i, a.eval x)) = vs)
    (hr : (Instr.build ty vs).run P w = .ok X w) (h : wpList P ops Q rest (a.put o.dst X) w) : wpList P ops Q (o :: rest) a w :=
  wpList_step fun K hK => by
    rw [if_pos hw]
    subst he
    unfold Oper.wp
    simp only [execOp, ho, Sem.run_bind, hr, Result.andThen_ok]
    exact hK _ _ h
end
section
variable {P : Program} {ops : Array Oper} {rest : List Oper} {a : Act} {w : World} {Q : Exit → Act → World → Prop} {dst : Option Tmp} {ty : TypeId} {pos : String} {aft : Array Edge} {gd : Option (Nat × Bool)}
theorem at_build (t : TypeId) {parts : Array (Nat × Operand)} (h : wpList P ops Q (⟨dst, .build t parts, ty, pos, aft, gd⟩ :: rest) a w) : wpList P ops Q (⟨dst, .build t parts, ty, pos, aft, gd⟩ :: rest) a w := h
end
end Go.Proofs.YtipdmhppadapkaaGreatDoor
/-
  Plain numbers and bytes: no program in sight.
-/
namespace Go.Proofs.YtipdmhppadapkaaGreatDoor

/-- k digits to the base 256, the first ahead -/
def numOf (f : Nat → Nat) : Nat → Nat
  | 0 => 0
  | k + 1 => numOf f k * 256 + f k
theorem numOf_lt (f : Nat → Nat) (hf : ∀ k, f k < 256) : ∀ k, numOf f k < 256 ^ k
  | 0 => by simp [numOf]
  | k + 1 => by
    have := numOf_lt f hf k
    have h2 := hf k
    simp only [numOf, Nat.pow_succ]; omega
theorem numOf_le {f : Nat → Nat} (hf : ∀ k, f k < 256) {k m : Nat} (h : k ≤ m) : numOf f k < 256 ^ m :=
  Nat.lt_of_lt_of_le (numOf_lt f hf k) (Nat.pow_le_pow_right (by omega) h)

/-- which byte comes k-th where a number of n bytes is read at a place -/
def byteAt (l : List UInt8) (p n : Nat) (low : Bool) (k : Nat) : Nat := (l[if low then p + n - 1 - k else p + k]?.getD 0).toNat
theorem byteAt_lt (l : List UInt8) (p n : Nat) (low : Bool) (k : Nat) : byteAt l p n low k < 256 := UInt8.toNat_lt _
def readNum (l : List UInt8) (p n : Nat) (low : Bool) : Nat := numOf (byteAt l p n low) n

/-- the number of n bytes that stands at a place of any bytes, or 0 and false -/
def rdNum (l : List UInt8) (p : Int) (n : Nat) (low : Bool) : Nat := if 0 ≤ p ∧ p + n ≤ l.length then readNum l p.toNat n low else 0
def rdOk (l : List UInt8) (p : Int) (n : Nat) : Bool := decide (0 ≤ p ∧ p + n ≤ l.length)
theorem rdNum_lt (l : List UInt8) (p : Int) (n : Nat) (low : Bool) : rdNum l p n low < 256 ^ n := by
  unfold rdNum readNum; split
  · exact numOf_lt _ (byteAt_lt _ _ _ _) n
  · exact Nat.pow_pos (by omega)

theorem u32_shl_or (y c : Nat) (hy : y < 256 ^ 3) (hc : c < 256) : bits .or .u32 (IntKind.u32.wrap ((y : Int) * 256)) (IntKind.u32.wrap (c : Int)) = ((y * 256 + c : Nat) : Int) := by
  have h1 : IntKind.u32.wrap ((y : Int) * 256) = ((y * 256 : Nat) : Int) := by rw [IntWalk.u32_in _ (by omega)]; omega
  have h2 : IntKind.u32.wrap (c : Int) = (c : Int) := IntWalk.u32_in _ (by omega)
  rw [h1, h2, u32_or_nat _ _ (by omega) (by omega), nat_join 8 _ _ (by omega) (by omega)]
theorem u32_round (l : List UInt8) (p n k : Nat) (low : Bool) (hk : k < 4) (hn : n = 4) :
    bits .or .u32 (IntKind.u32.wrap ((numOf (byteAt l p n low) k : Nat) * 256)) (IntKind.u32.wrap (byteAt l p n low k : Nat)) = ((numOf (byteAt l p n low) (k + 1) : Nat) : Int) := by
  subst hn
  exact u32_shl_or _ _ (numOf_le (byteAt_lt _ _ _ _) (by omega)) (byteAt_lt _ _ _ _ _)

/-- n bytes of a number -/
def putByte (x n : Nat) (low : Bool) (i : Nat) : UInt8 := UInt8.ofNat (x / 256 ^ (if low then i else n - 1 - i))
def putNum (x n : Nat) (low : Bool) : List UInt8 := (List.range n).map (putByte x n low)
theorem putNum_length (x n : Nat) (low : Bool) : (putNum x n low).length = n := by simp [putNum]
def putAll (l : List Nat) (n : Nat) (low : Bool) : List UInt8 := l.flatMap fun x => putNum x n low
theorem byteOf (x e : Nat) : ((x : Int) / 2 ^ (8 * e) % 256) = ((UInt8.ofNat (x / 256 ^ e)).toNat : Int) := by
  rw [UInt8.toNat_ofNat', show (256 : Nat) = 2 ^ 8 from rfl, ← Nat.pow_mul]
  rw [Int.natCast_emod, Int.natCast_ediv, Int.natCast_pow]
  rfl
theorem putNum_snoc (x n : Nat) (low : Bool) (j : Nat) (hj : j < n) : (putNum x n low).take (j + 1) = (putNum x n low).take j ++ [putByte x n low j] := by
  rw [List.take_succ_eq_append_getElem (by rw [putNum_length]; exact hj)]; simp [putNum]
theorem putNum_all (x n : Nat) (low : Bool) : (putNum x n low).take n = putNum x n low := List.take_of_length_le (by rw [putNum_length]; exact Nat.le_refl _)
theorem putAll_snoc (l : List Nat) (n : Nat) (low : Bool) (k : Nat) (hk : k < l.length) : putAll (l.take (k + 1)) n low = putAll (l.take k) n low ++ putNum (l[k]?.getD 0) n low := by
  rw [List.take_succ_eq_append_getElem hk, List.getElem?_eq_getElem hk]
  simp only [putAll, List.flatMap_append, List.flatMap_cons, List.flatMap_nil, List.append_nil, Option.getD_some]
end Go.Proofs.YtipdmhppadapkaaGreatDoor
/-
  A region whose first operations draw their order and change nothing that was there, and whose last ones (stores) come behind all of these, in the order of the text.
-/
namespace Go.Proofs.YtipdmhppadapkaaGreatDoor
open Go.RowKit
namespace Reg
section
variable {P : Program} {ops : Array Oper} {Q : Exit → Act → World → Prop} {a0 : Act} {w0 : World}

abbrev ptr (b : Nat) : Value := .pointer (some ⟨b, 0, none⟩)
variable {m : Nat} {al : List Nat}
variable {E : List Kd → Prop} {rest : List Oper} {Rs : List Kd} {o : Oper}
end
end Reg
end Go.Proofs.YtipdmhppadapkaaGreatDoor
/-
  Walk: portreeveref04.SameNodes.
-/
namespace Go.Proofs.YtipdmhppadapkaaGreatDoor
open Go.RowKit

theorem rangeAt_later {w w' : World} {B b off : Nat} {cs : List Value} (h : w.rangeAt b off cs) (hB : Below B w w') (hb : b < B) : w'.rangeAt b off cs := fun j v hv => (hB.cell (p := ⟨b, off + j, none⟩) hb).trans (h j v hv)
theorem _root_.Go.World.rangeAt.later {w w' : World} {B b off : Nat} {cs : List Value} (h : w.rangeAt b off cs) (hB : Below B w w') (hb : b < B) : w'.rangeAt b off cs := rangeAt_later h hB hb
end Go.Proofs.YtipdmhppadapkaaGreatDoor
