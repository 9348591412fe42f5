/-
  Parts: Kit.
-/
import Derived.WalkKit
import Derived.WalkLawsBesides
import Derived.WalkSpells
import Derived.Outline
import Derived.Lib.Hide
import Derived.Maps.AppendAt
import Derived.Deep.AppendLies
import Derived.Deep.RegionHeld3
import Derived.Deep.QuietTactic
import Derived.BigQuiet
import Derived.Laws.OwnMore
import Derived.Laws.CopyOwn
import Derived.Laws.IdiomStrings
import Derived.Deep.Draws
import Derived.Deep.LoopGhost
import Derived.Deep.DeepFit
import Derived.Deep.DeepMust
import Derived.IntWalk
import Derived.Test.YtpellkblaeeopaaGreatDoorRows
/-
  My own words for memory and numbers, used by all walks of this seat. Nothing here names a function of the program.
-/
namespace Go.Proofs.YtpellkblaeeopaaGreatDoor
open Go.RowKit

theorem addr_block (a : Addr) (n : Nat) : (a.add n).block = a.block := by unfold Addr.add; split <;> rfl
theorem addr_add (a : Addr) (i j : Nat) : (a.add i).add j = a.add (i + j) := by
  unfold Addr.add
  by_cases hi : i = 0 <;> by_cases hj : j = 0 <;> simp [hi, hj, Nat.add_assoc]

/-- A slice value's address A leads to the cells xs (n elements of `size` cells each), below block B. -/
structure Rd (w : World) (B size : Nat) (A : Option Addr) (n : Nat) (xs : List Value) : Prop where
  len : xs.length = n * size
  cell : ∀ k v, xs[k]? = some v → ∃ a, A = some a ∧ a.block < B ∧ w.cell? (a.add k) = some v

namespace Rd
variable {w w' : World} {B B' size n : Nat} {A : Option Addr} {xs : List Value}
theorem nil (w : World) (B size : Nat) (A : Option Addr) : Rd w B size A 0 [] := ⟨by simp, fun k v h => by simp at h⟩
theorem keep (h : Rd w B size A n xs) (hk : ∀ p : Addr, p.block < B → w'.cell? p = w.cell? p) : Rd w' B size A n xs :=
  ⟨h.len, fun k v hv => by obtain ⟨a, e, hb, hc⟩ := h.cell k v hv; exact ⟨a, e, hb, (hk _ (by rw [addr_block]; exact hb)).trans hc⟩⟩
theorem more (h : Rd w B size A n xs) (hB : B ≤ B') : Rd w B' size A n xs :=
  ⟨h.len, fun k v hv => by obtain ⟨a, e, hb, hc⟩ := h.cell k v hv; exact ⟨a, e, by omega, hc⟩⟩
theorem below (h : Rd w B size A n xs) (hb : Below B w w') : Rd w' B size A n xs := h.keep fun _ hp => hb.cell hp
theorem belowm (h : Rd w B size A n xs) (hb : Below B' w w') (hB : B ≤ B') : Rd w' B size A n xs := h.below (hb.mono hB)
theorem drew (h : Rd w B size A n xs) : Rd w.drew B size A n xs := ⟨h.len, h.cell⟩
theorem drewN (h : Rd w B size A n xs) (k : Nat) : Rd (w.drewN k) B size A n xs := ⟨h.len, h.cell⟩
theorem alloc (h : Rd w B size A n xs) (hB : B ≤ w.heap.size) (o : Obj) : Rd (w.alloc o) B size A n xs := h.keep fun p hp => World.cell?_alloc_lt w o p (by omega)
theorem cells (h : Rd w B size A n xs) (hn : 0 < n * size) : ∃ a, A = some a ∧ a.block < B ∧ ∀ k v, xs[k]? = some v → w.cell? (a.add k) = some v := by
  obtain ⟨a, e, hb, _⟩ := h.cell 0 _ (List.getElem?_eq_getElem (by rw [h.len]; exact hn))
  refine ⟨a, e, hb, fun k v hv => ?_⟩
  obtain ⟨a', e', _, hc⟩ := h.cell k v hv
  rw [e] at e'; cases e'; exact hc
theorem cut (h : Rd w B size A n xs) {k cap : Nat} (hc : n ≤ cap) :
    Rd w B size (if cap = k then A else A.map (·.add (k * size))) (n - k) (xs.drop (k * size)) := by
  refine ⟨by rw [List.length_drop, h.len, Nat.sub_mul], fun j v hv => ?_⟩
  rw [List.getElem?_drop] at hv
  obtain ⟨a, rfl, hb, hcell⟩ := h.cell _ v hv
  have hlt : k * size + j < xs.length := (List.getElem?_eq_some_iff.1 hv).1
  rw [h.len] at hlt
  have hkn : k < n := by
    rcases Nat.lt_or_ge k n with h1 | h1
    · exact h1
    · exfalso
      have := Nat.mul_le_mul_right size h1
      omega
  rw [if_neg (by omega)]
  exact ⟨a.add (k * size), rfl, by rw [addr_block]; exact hb, by rw [addr_add]; exact hcell⟩
theorem front (h : Rd w B size A n xs) {k : Nat} (hk : k ≤ n) : Rd w B size A k (xs.take (k * size)) := by
  refine ⟨by rw [List.length_take, h.len]; exact Nat.min_eq_left (Nat.mul_le_mul_right _ hk), fun j v hv => ?_⟩
  rw [List.getElem?_take] at hv
  split at hv
  · exact h.cell j v hv
  · cases hv
theorem of_own {base : Nat} {e : TypeId} {c : Nat} (h : w.ownsRow base e size (.slice A n c) n xs) : Rd w w.heap.size size A n xs := by
  refine ⟨h.1, fun k v hv => ?_⟩
  rcases h.2 with ⟨e1, rfl⟩ | ⟨g, cap, cur, e1, _, hh, _⟩
  · have := h.1
    simp at this; subst this; simp at hv
  · injection e1 with e1 _ _
    subst e1
    exact ⟨_, rfl, (Array.getElem?_eq_some_iff.1 hh).1, h.cells (g := g) rfl k v hv⟩
end Rd

/-- A block that is known whole: cells of type t, none frozen. -/
def Blk (w : World) (g : Nat) (t : TypeId) (cs : Array Value) : Prop := w.heap[g]? = some (.cells cs t (0, 0))
namespace Blk
variable {w w' : World} {g : Nat} {t : TypeId} {cs : Array Value}
theorem lt (h : Blk w g t cs) : g < w.heap.size := (Array.getElem?_eq_some_iff.1 h).1
theorem cell (h : Blk w g t cs) (i : Nat) : w.cell? ⟨g, i, none⟩ = cs[i]? := cell_of_row w g i cs t (0, 0) h
theorem frozen (h : Blk w g t cs) (i : Nat) : w.frozen? ⟨g, i, none⟩ = false := frozen_of_row w g i cs t h
theorem new (w : World) (t : TypeId) (cs : Array Value) : Blk (w.alloc (.cells cs t)) w.heap.size t cs := heap_alloc_new w _
theorem drew (h : Blk w g t cs) : Blk w.drew g t cs := h
theorem drewN (h : Blk w g t cs) (n : Nat) : Blk (w.drewN n) g t cs := h
theorem alloc (h : Blk w g t cs) (o : Obj) : Blk (w.alloc o) g t cs := (Below.heap_alloc w o g h.lt).trans h
theorem set_ (h : Blk w g t cs) (i : Nat) (u : Value) : Blk (w.setCell ⟨g, i, none⟩ u) g t (cs.setIfInBounds i u) := heap_setCell_same w g i cs t u h
theorem far (h : Blk w g t cs) {p : Addr} (hp : g ≠ p.block) (u : Value) : Blk (w.setCell p u) g t cs := (heap_setCell_other w p g u hp).trans h
theorem below {B : Nat} (h : Blk w g t cs) (hb : Below B w w') (hg : g < B) : Blk w' g t cs := (hb.block g hg).trans h
theorem grown {row : Option Nat} (h : Blk w g t cs) (hb : w.grownBy w' row) (hg : some g ≠ row) : Blk w' g t cs := (hb.block g h.lt hg).trans h
theorem rd (h : Blk w g t cs) {size n : Nat} (hs : cs.size = n * size) : Rd w w.heap.size size (some ⟨g, 0, none⟩) n cs.toList := by
  refine ⟨by simpa using hs, fun k v hv => ⟨_, rfl, h.lt, ?_⟩⟩
  have : (⟨g, 0, none⟩ : Addr).add k = ⟨g, k, none⟩ := by unfold Addr.add; split <;> simp_all
  rw [this, h.cell k]; simpa using hv
theorem own (h : Blk w g t cs) {base size n m : Nat} (hb : base ≤ g) (hs : cs.size = m * size) (hnm : n ≤ m) (hm : m ≤ 9223372036854775807) :
    w.ownsRow base t size (.slice (some ⟨g, 0, none⟩) n m) n (cs.toList.take (n * size)) :=
  ⟨by rw [List.length_take, Array.length_toList, hs]; exact Nat.min_eq_left (Nat.mul_le_mul_right _ hnm), .inr ⟨g, m, cs, rfl, hb, h, hnm, by simp only [maxLen]; omega, hs, rfl⟩⟩
end Blk

/-- bytes as cells -/
def bcells (l : List UInt8) : List Value := l.map fun c => .int .u8 (c.toNat : Int)
theorem bcells_length (l : List UInt8) : (bcells l).length = l.length := by simp [bcells]
theorem bcells_append (a b : List UInt8) : bcells (a ++ b) = bcells a ++ bcells b := by simp [bcells]
theorem bcells_get (l : List UInt8) (k : Nat) (h : k < l.length) : (bcells l)[k]? = some (.int .u8 (l[k]?.getD 0).toNat) := by
  simp [bcells, h]
theorem bcells_one (l : List UInt8) : ∀ u ∈ bcells l, u.oneCell' = true := by
  intro u hu; simp only [bcells, List.mem_map] at hu; obtain ⟨c, _, rfl⟩ := hu; rfl

/-! ### Operations on slices, as laws at the walk's own goal -/
structure Elem (P : Program) (t e : TypeId) (z : Value) (size bytes : Nat) : Prop where
  under : P.underlying t = some (.slice e)
  info : ∃ i, P.info? e = some i ∧ i.zero = some z ∧ i.size = size ∧ i.bytes = bytes
  zs : z.cells.size = size
  pos : 0 < size
theorem Elem.of {P : Program} {t e : TypeId} {z : Value} {size bytes : Nat} (h1 : P.underlying t = some (.slice e))
    (h2 : (P.info? e).map (fun i => (i.zero, i.size, i.bytes)) = some (some z, size, bytes)) (h3 : z.cells.size = size) (h4 : 0 < size) : Elem P t e z size bytes := by
  obtain ⟨i, a, b, c, d⟩ := info_parts h2
  exact ⟨h1, ⟨i, a, b, c, d⟩, h3, h4⟩

section
variable {P : Program} {ops : Array Oper} {rest : List Oper} {o : Oper} {a : Act} {Q : Exit → Act → World → Prop}

/-- make([]T, n, m): a new block of zeros -/
theorem wpList_makeN (w : World) {t e : TypeId} {z : Value} {size bytes : Nat} (E : Elem P t e z size bytes) (hg : o.guard = none) (l c : Operand) (hop : o.op = Op.makeSlice t l c)
    (kl kc : IntKind) (L C : Int) (n m : Nat) (hl : a.eval l = .int kl L) (hc : a.eval c = .int kc C) (hL : L = (n : Int)) (hC : C = (m : Int)) (hnm : n ≤ m)
    (b2 : bytes * m ≤ 281474976710656) (b3 : m ≤ 9223372036854775807)
    (hK : ∀ w', Blk w' w.heap.size e (madeCells z.cells (m * size)) → w'.heap.size = w.heap.size + 1 → Below w.heap.size w w' → wpList P ops Q rest (a.put o.dst (.slice (some ⟨w.heap.size, 0, none⟩) n m)) w') :
    wpList P ops Q (o :: rest) a w := by
  obtain ⟨i, h2, h3, h4, h5⟩ := E.info
  refine wpList_plain hg fun K hK' => ?_
  have hb : (i.bytes : Int) * (m : Int) ≤ 281474976710656 := by
    have h : ((i.bytes * m : Nat) : Int) ≤ 281474976710656 := by rw [h5]; omega
    rwa [Int.natCast_mul] at h
  have hrun := run_make (P := P) w t e i z E.under h2 h3 kl kc n m (by omega) (by omega) hb (by omega)
  simp only [Int.toNat_natCast] at hrun
  subst hL
  subst hC
  unfold Oper.wp
  simp [execOp, hop, hl, hc, hrun, Result.andThen]
  refine hK' _ _ (hK _ ?_ (by simp) ((Below.refl _ _).alloc (Nat.le_refl _) _))
  rw [h4]; exact Blk.new _ _ _

/-- append(s, x...) onto a row of the call's own, the source any slice that reads as cells -/
theorem wpList_app (w : World) {t e : TypeId} {z : Value} {size bytes : Nat} (E : Elem P t e z size bytes) (hgd : o.guard = none) (s x : Operand)
    (ho : o.op = .call { callee := .builtin .append, args := #[s, x], argTypes := #[t, t] })
    (base : Nat) (A : Option Addr) (n c : Nat) (xs : List Value) (hs : a.eval s = .slice A n c) (hown : w.ownsRow base e size (.slice A n c) n xs)
    (B : Nat) (A2 : Option Addr) (m c2 : Nat) (news : List Value) (hx : a.eval x = .slice A2 m c2) (hr : Rd w B size A2 m news) (h1 : ∀ u ∈ news, u.oneCell' = true)
    (h63 : n + m ≤ 9223372036854775807) (hbytes : (n + m) * bytes ≤ 140737488355328) (hbase : base ≤ w.heap.size)
    (h : ∀ A' c' w', w'.ownsRow base e size (.slice A' (n + m) c') (n + m) (xs ++ news) → w.grownBy w' (Value.slice A n c).ownBlock → Below base w w' →
      ((Value.slice A' (n + m) c').ownBlock = (Value.slice A n c).ownBlock ∨ (Value.slice A' (n + m) c').ownBlock = some w.heap.size) →
      wpList P ops Q rest (a.put o.dst (.slice A' (n + m) c')) w') :
    wpList P ops Q (o :: rest) a w := by
  obtain ⟨i, hi, hz, h4, h5⟩ := E.info
  rcases Nat.eq_zero_or_pos m with h0 | h0
  · subst h0
    have hn : news = [] := List.eq_nil_of_length_eq_zero (by simpa using hr.len)
    subst hn
    refine wpList_plain hgd fun K hK => ?_
    have hrun : (Builtin.append_ #[t, t] o.type #[.slice A n c, .slice A2 0 c2]).run P w = .ok (.slice A n c) w := by
      rcases hown.2 with ⟨e1, rfl⟩ | ⟨g, cap, cur, e1, _, _, hnc, _⟩
      · injection e1 with e1 e2 e3
        subst e1 e3
        cases A2 <;> simp [Builtin.append_, run_underlying E.under, sizeOf, typeInfo, hi, Builtin.lenOf, Builtin.firstCells, loadCells, loadCellsFrom]
      · injection e1 with e1 e2 e3
        subst e1 e3
        cases A2 <;> simp [Builtin.append_, run_underlying E.under, sizeOf, typeInfo, hi, Builtin.lenOf, Builtin.firstCells, loadCells, loadCellsFrom, hnc, storeCells]
    unfold Oper.wp execOp
    simp only [ho, resolve, invoke, builtin, Sem.run_bind, Sem.run_pure, Result.andThen_ok, List.map_toArray, List.map_cons, List.map_nil, hs, hx, hrun]
    exact hK _ _ (h A c w (by simpa using hown) (World.grownBy.refl w _) (Below.refl _ _) (.inl rfl))
  · obtain ⟨ad, rfl, _, hcells⟩ := hr.cells (Nat.mul_pos h0 E.pos)
    refine wpList_append_own_at w hgd s x t ho base e i z size bytes E.under hi hz h4 h5 E.zs E.pos (.slice A n c) n xs hs hown ad m c2 news hx hr.len hcells h1 (by simp only [maxLen]; omega) hbytes hbase ?_
    intro v' w' h2 h3 _ h5
    have hex : ∃ A' c', v' = .slice A' (n + m) c' := by
      rcases h2.2 with ⟨e1, e2⟩ | ⟨g, cap, cur, e1, _⟩
      · omega
      · exact ⟨_, _, e1⟩
    obtain ⟨A', c', rfl⟩ := hex
    exact h A' c' w' h2 h3 ((Below.refl _ _).grown h3 hbase (fun k hk => (hown.lt k hk).1)) h5

/-- append(s, x): one element of one cell, laid in a new block ahead -/
theorem wpList_app1 (w : World) {t e : TypeId} {z : Value} {bytes : Nat} (E : Elem P t e z 1 bytes) (hgd : o.guard = none) (s x : Operand)
    (ho : o.op = .call { callee := .builtin .append, args := #[s, x], argTypes := #[t, t] })
    (base : Nat) (A : Option Addr) (n c : Nat) (xs : List Value) (hs : a.eval s = .slice A n c) (hown : w.ownsRow base e 1 (.slice A n c) n xs)
    (u : Value) (hx : a.eval x = .slice (some ⟨w.heap.size, 0, none⟩) 1 1) (h1 : u.oneCell' = true)
    (h63 : n + 1 ≤ 9223372036854775807) (hbytes : (n + 1) * bytes ≤ 140737488355328) (hbase : base ≤ w.heap.size)
    (h : ∀ A' c' w', w'.ownsRow base e 1 (.slice A' (n + 1) c') (n + 1) (xs ++ [u]) → w.grownBy w' (Value.slice A n c).ownBlock → Below base w w' →
      wpList P ops Q rest (a.put o.dst (.slice A' (n + 1) c')) w') :
    wpList P ops Q (o :: rest) a (w.alloc (.cells #[u] e)) := by
  refine wpList_app (w.alloc (.cells #[u] e)) E hgd s x ho base A n c xs hs (hown.alloc _) _ _ 1 1 [u] hx ((Blk.new w e #[u]).rd (size := 1) (n := 1) rfl) (by simpa using h1) h63 hbytes (by simp; omega) ?_
  intro A' c' w' h2 h3 h4 _
  exact h A' c' w' h2 ((World.grownBy_alloc w _ _).trans h3) (((Below.refl _ _).alloc hbase _).trans h4)

/-- copy(d, s): d leads into a block that is known whole -/
theorem wpList_copyAt (w : World) {dT sT e te : TypeId} (hu : P.underlying dT = some (.slice e)) (hsz : (P.info? e).map (·.size) = some 1) (hgd : o.guard = none) (d s : Operand)
    (ho : o.op = .call { callee := .builtin .copy, args := #[d, s], argTypes := #[dT, sT] })
    (g off : Nat) (cur : Array Value) (hb : Blk w g te cur) (dp : Option Addr) (dn dc : Nat) (hd : a.eval d = .slice dp dn dc)
    (B : Nat) (A2 : Option Addr) (m c2 : Nat) (news : List Value) (hx : a.eval s = .slice A2 m c2) (hr : Rd w B 1 A2 m news) (h1 : ∀ u ∈ news, u.oneCell' = true)
    (k : Nat) (hk : k = Nat.min m dn) (hdp : 0 < k → dp = some ⟨g, off, none⟩) (hfit : off + k ≤ cur.size)
    (h : ∀ w', Blk w' g te (splice cur.toList off (news.take k)).toArray → w.grownBy w' (some g) → w'.heap.size = w.heap.size → wpList P ops Q rest (a.put o.dst (.int .i64 (k : Int))) w') :
    wpList P ops Q (o :: rest) a w := by
  have hl : (news.take k).length = k := by rw [List.length_take, hr.len, hk]; simp only [Nat.mul_one]; exact Nat.min_eq_left (Nat.min_le_left _ _)
  by_cases h0 : k = 0
  · subst h0
    refine wpList_copy_nothing hgd d s dT sT ho e hu hsz dp A2 dn dc m c2 hd hx (by omega) ?_
    exact h w (by simpa [splice] using hb) (World.grownBy.refl _ _) rfl
  · have hm : 0 < m * 1 := by
      have : k ≤ m := by rw [hk]; exact Nat.min_le_left _ _
      omega
    obtain ⟨ad, rfl, _, hcells⟩ := hr.cells hm
    have hdp' := hdp (by omega)
    subst hdp'
    refine wpList_copy_own hgd d s dT sT ho e hu hsz g off dn dc ad m c2 hd hx cur te hb (news.take k) (by rw [hl, hk]) (fun j v hv => ?_) (by rw [hl]; exact hfit) (fun v hv => h1 v (List.mem_of_mem_take hv)) ?_
    · rw [List.getElem?_take] at hv
      split at hv
      · exact hcells j v hv
      · cases hv
    · rw [hl]
      exact h _ (by unfold splice; rw [hl]; exact setRow_heap w g _ _ te _ hb) ⟨rfl, rfl, rfl, by simp, fun j _ hne => setRow_other w g j _ (fun e => hne (by simp [e]))⟩ (by simp)

/-- string(b) -/
theorem run_str (w : World) (src dst e : TypeId) {B : Nat} (A : Option Addr) (n c : Nat) (l : List UInt8) (hs : P.underlying src = some (.slice e)) (he : P.underlying e = some (.int .u8)) (hd : P.underlying dst = some .string)
    (h : Rd w B 1 A n (bcells l)) : (convert src dst (.slice A n c)).run P w = .ok (.string ⟨l.toArray⟩) w := by
  have hn : n = l.length := by have := h.len; rw [bcells_length] at this; omega
  subst hn
  cases A with
  | none =>
    have : l = [] := by
      cases l with
      | nil => rfl
      | cons c l => obtain ⟨a, e, _⟩ := h.cell 0 _ (bcells_get (c :: l) 0 (by simp)); cases e
    subst this
    rw [run_convert_bytes_string w src dst e none _ c hs he hd]
    rfl
  | some a =>
    refine run_convert_bytes_back w src dst e a c l hs he hd fun j hj => ?_
    obtain ⟨a', e', _, hc⟩ := h.cell j _ (bcells_get l j hj)
    cases e'
    rw [hc, List.getElem?_eq_getElem hj]; rfl

theorem wpList_str (w : World) {src dst e : TypeId} (hs : P.underlying src = some (.slice e)) (he : P.underlying e = some (.int .u8)) (hd : P.underlying dst = some .string) (hgd : o.guard = none) (x : Operand)
    (ho : o.op = .convert src dst x) {B : Nat} (A : Option Addr) (n c : Nat) (l : List UInt8) (hx : a.eval x = .slice A n c) (hr : Rd w B 1 A n (bcells l))
    (h : wpList P ops Q rest (a.put o.dst (.string ⟨l.toArray⟩)) w) : wpList P ops Q (o :: rest) a w := by
  refine wpList_plain hgd fun K hK => ?_
  have hrun := run_str w src dst e A n c l hs he hd hr
  unfold Oper.wp
  simp [execOp, ho, hx, hrun, Result.andThen]
  exact hK _ _ h
/-- arr[i:] of a pointer to an array -/
theorem run_sliceAt_lo (w : World) {t e : TypeId} {n size : Nat} (ht : P.underlying t = some (.array n e)) (hs : (P.info? e).map (·.size) = some size) (ad : Addr) (k : IntKind) (i : Nat) (hi : i ≤ n) :
    (Instr.sliceAt t (.pointer (some ad)) (some (.int k (i : Int))) none none).run P w = .ok (.slice (some (if n = i then ad else ad.add (i * size))) (n - i) (n - i)) w := by
  obtain ⟨inf, hinf, hsz⟩ := Option.map_eq_some_iff.1 hs
  simp [Instr.sliceAt, run_underlying ht, Instr.sliceBounds, Instr.sliceBound, asIntOf, hi, sizeOf, typeInfo, hinf, hsz, Instr.sureAddr]
end

/-! Guards for arms: `(with_reducible refine at_copy ?_)` goes through just where the next operation is a copy (a conversion; a comparison). -/
section
variable {P : Program} {ops : Array Oper} {rest : List Oper} {a : Act} {w : World} {Q : Exit → Act → World → Prop} {dst : Option Tmp} {ty : TypeId} {pos : String} {aft : Array Edge} {gd : Option (Nat × Bool)}
theorem at_copy {args : Array Operand} {tys : Array TypeId} (h : wpList P ops Q (⟨dst, .call ⟨.builtin .copy, args, tys⟩, ty, pos, aft, gd⟩ :: rest) a w) : wpList P ops Q (⟨dst, .call ⟨.builtin .copy, args, tys⟩, ty, pos, aft, gd⟩ :: rest) a w := h
theorem at_conv {s d : TypeId} {x : Operand} (h : wpList P ops Q (⟨dst, .convert s d x, ty, pos, aft, gd⟩ :: rest) a w) : wpList P ops Q (⟨dst, .convert s d x, ty, pos, aft, gd⟩ :: rest) a w := h
end

theorem ret_int {k : IntKind} {a b : Int} (h : a = b) : Ending.returned (.int k a) = .returned (.int k b) := by rw [h]
end Go.Proofs.YtpellkblaeeopaaGreatDoor
