/-
  Parts: MaA MaB MaC MaD MaE MaF MaG MaH MaI MaJ MaK MaL MaN MaO MaP.
-/
import Derived.Test.YtipdmhppadapkaaGreatDoorBA
import Derived.Test.YtipdmhppadapkaaGreatDoorBB
import Derived.Deep.MidRow
import Derived.Maps.RangeWalk
import Derived.Test.YtipdmhppadapkaaGreatDoorBX
/-
  Spans: plain, and the walks of Good, Last, Has, Within of both.
-/
namespace Go.Proofs.YtipdmhppadapkaaGreatDoor
open Go.RowKit

/-- a span: where it begins, how long it is -/
structure Sp where
  base : Nat
  size : Nat
structure Sp.ok (s : Sp) : Prop where
  base : s.base < 18446744073709551616
  size : s.size < 18446744073709551616
def Sp.cells (s : Sp) : Array Value := #[.int .u64 (s.base : Int), .int .u64 (s.size : Int)]
def Sp.good (s : Sp) : Bool := decide (0 < s.size ∧ s.base + s.size ≤ 18446744073709551616)
def Sp.last (s : Sp) : Nat := if s.good then s.base + s.size - 1 else 0
def Sp.has (s : Sp) (a : Nat) : Bool := decide (0 < s.size ∧ s.base + s.size ≤ 18446744073709551616 ∧ s.base ≤ a ∧ a < s.base + s.size)
def Sp.within (s t : Sp) : Bool := decide (s.good = true ∧ t.good = true ∧ t.base ≤ s.base ∧ s.base + s.size ≤ t.base + t.size)
def Sp.pages (s : Sp) : Bool := decide (s.good = true ∧ s.base % 4096 = 0 ∧ s.size % 4096 = 0)
/-! the reference's -/
end Go.Proofs.YtipdmhppadapkaaGreatDoor
/-
  Walks: Within of both; span.Pages.
-/
namespace Go.Proofs.YtipdmhppadapkaaGreatDoor
open Go.RowKit

end Go.Proofs.YtipdmhppadapkaaGreatDoor
/-
  Walks: span.Pages (through slices.ContainsFunc, slices.IndexFunc).
-/
namespace Go.Proofs.YtipdmhppadapkaaGreatDoor
open Go.RowKit

section
variable {P : Program} {ops : Array Oper} {rest : List Oper} {o : Oper} {a : Act} {Q : Exit → Act → World → Prop}
end
section
variable {P : Program} {ops : Array Oper} {rest : List Oper} {a : Act} {w : World} {Q : Exit → Act → World → Prop} {dst : Option Tmp} {ty : TypeId} {pos : String} {aft : Array Edge} {gd : Option (Nat × Bool)}
end

end Go.Proofs.YtipdmhppadapkaaGreatDoor
/-
  Walks: Fit of both: which boards may be.
-/
namespace Go.Proofs.YtipdmhppadapkaaGreatDoor
open Go.RowKit

structure Bd where
  ram : Sp
  ldr : Sp
  irqs : Int
  streams : Int
  cpus : Int
structure Bd.ok (b : Bd) : Prop where
  ram : b.ram.ok
  ldr : b.ldr.ok
  irqs : (Lit.int .i64 b.irqs).wf = true
  streams : (Lit.int .i64 b.streams).wf = true
  cpus : (Lit.int .i64 b.cpus).wf = true
def Bd.cells (b : Bd) : Array Value := #[.int .u64 (b.ram.base : Int), .int .u64 (b.ram.size : Int), .int .u64 (b.ldr.base : Int), .int .u64 (b.ldr.size : Int), .int .i64 b.irqs, .int .i64 b.streams, .int .i64 b.cpus]
def Bd.spans (b : Bd) : Bool := b.ram.pages && b.ldr.pages && decide (b.ram.last < 1099511627776) && b.ldr.within b.ram
def Bd.counts (b : Bd) : Bool := decide (0 ≤ b.irqs ∧ b.irqs ≤ 1020 ∧ 0 ≤ b.streams ∧ b.streams ≤ 256 ∧ 1 ≤ b.cpus ∧ b.cpus ≤ 32)
def Bd.fits (b : Bd) : Bool := b.spans && b.counts
def Bd.err (b : Bd) : Int := if b.fits then 0 else 282
end Go.Proofs.YtipdmhppadapkaaGreatDoor
/-
  Walk: portreeveref09.Fit.
-/
namespace Go.Proofs.YtipdmhppadapkaaGreatDoor
open Go.RowKit

theorem wpList_load_midW {P : Program} {ops : Array Oper} {rest : List Oper} {op : Oper} {a : Act} {w : World} {Q : Exit → Act → World → Prop} (hw : Region.wanted op (yielded ops a.tmps) = true) (ty : TypeId) (x : Operand) (ho : op.op = .load ty x)
    (b o : Nat) (hx : a.eval x = .pointer (some ⟨b, o, none⟩)) (cs : List Value) (d : TypeDesc) (hc : w.rangeAt b o cs)
    (hu : P.underlying ty = some d) (hd : d.isRow = true) (hi : (P.info? ty).map (·.size) = some cs.length)
    (h : wpList P ops Q rest (a.put op.dst (.agg cs.toArray)) w) : wpList P ops Q (op :: rest) a w :=
  wpList_runV hw (by
    unfold execOp
    simp only [ho, hx, Instr.loadAt, Instr.sureAddr, Sem.run_bind, Sem.run_pure, Result.andThen_ok, run_loadVar_mid w b o ty cs d hc hu hd hi]) h

end Go.Proofs.YtipdmhppadapkaaGreatDoor
/-
  Plain: memory as bytes at addresses. The program's Mem in memory: a map of pages.
-/
namespace Go.Proofs.YtipdmhppadapkaaGreatDoor
open Go.RowKit
open Go.Maps (Keyed)

abbrev Mm := Nat → UInt8
def pageOf (m : Mm) (k : Nat) : List UInt8 := (List.range 4096).map fun i => m (4096 * k + i)
theorem pageOf_length (m : Mm) (k : Nat) : (pageOf m k).length = 4096 := by simp [pageOf]
theorem pageOf_get (m : Mm) (k i : Nat) (h : i < 4096) : (pageOf m k)[i]? = some (m (4096 * k + i)) := by simp [pageOf, h]
def writeM (m : Mm) (a : Nat) (l : List UInt8) : Mm := fun x => if a ≤ x ∧ x < a + l.length then l[x - a]?.getD 0 else m x
theorem writeM_in (m : Mm) (a : Nat) (l : List UInt8) (i : Nat) (h : i < l.length) : writeM m a l (a + i) = l[i]?.getD 0 := by
  unfold writeM; rw [if_pos ⟨by omega, by omega⟩, Nat.add_sub_cancel_left]
theorem writeM_out (m : Mm) (a : Nat) (l : List UInt8) (x : Nat) (h : x < a ∨ a + l.length ≤ x) : writeM m a l x = m x := by
  unfold writeM; rw [if_neg (by omega)]
/-- one page of the memory behind a write that stays within it -/
theorem pageOf_write (m : Mm) (k o : Nat) (l : List UInt8) (h : o + l.length ≤ 4096) : pageOf (writeM m (4096 * k + o) l) k = (pageOf m k).take o ++ l ++ (pageOf m k).drop (o + l.length) := by
  apply List.ext_getElem?
  intro i
  by_cases hi : i < 4096
  · rw [pageOf_get _ _ _ hi, List.append_assoc]
    by_cases h1 : i < o
    · rw [List.getElem?_append_left (by rw [List.length_take, pageOf_length]; omega), List.getElem?_take, if_pos h1, pageOf_get _ _ _ hi, writeM_out _ _ _ _ (by omega)]
    · rw [List.getElem?_append_right (by rw [List.length_take, pageOf_length]; omega)]
      have e1 : (List.take o (pageOf m k)).length = o := by rw [List.length_take, pageOf_length]; omega
      rw [e1]
      by_cases h2 : i < o + l.length
      · rw [List.getElem?_append_left (by omega)]
        have := writeM_in m (4096 * k + o) l (i - o) (by omega)
        rw [show 4096 * k + o + (i - o) = 4096 * k + i by omega] at this
        rw [this, List.getElem?_eq_getElem (by omega)]; rfl
      · rw [List.getElem?_append_right (by omega), List.getElem?_drop, show o + l.length + (i - o - l.length) = i by omega, pageOf_get _ _ _ hi, writeM_out _ _ _ _ (by omega)]
  · rw [List.getElem?_eq_none (by rw [pageOf_length]; omega), List.getElem?_eq_none (by simp [pageOf_length]; omega)]
theorem pageOf_other (m : Mm) (k k2 o : Nat) (l : List UInt8) (h : o + l.length ≤ 4096) (hk : k2 ≠ k) : pageOf (writeM m (4096 * k + o) l) k2 = pageOf m k2 := by
  apply List.ext_getElem?
  intro i
  by_cases hi : i < 4096
  · rw [pageOf_get _ _ _ hi, pageOf_get _ _ _ hi, writeM_out]
    rcases Nat.lt_or_gt_of_ne hk with h1 | h1 <;> omega
  · rw [List.getElem?_eq_none (by rw [pageOf_length]; omega), List.getElem?_eq_none (by rw [pageOf_length]; omega)]
/-! the map's elements: a page's block, told as a number -/
def pgV (g : Nat) : Value := .slice (some ⟨g, 0, none⟩) 4096 4096
open Classical in
noncomputable def pgE (v : Value) : Option (DataW Unit × List MemPlace) := if h : ∃ g, v = pgV g then some (.lit (.int .i64 (h.choose : Int)), []) else if v = .slice none 0 0 then some (.nil, []) else none
def pgAt (pg : Nat → Option Nat) (k : Nat) : DataW Unit := match pg k with | none => .nil | some g => .lit (.int .i64 (g : Int))

/-- the program's Mem at block p: its memory m, its blocks F, at most N pages -/
structure PM (w : World) (p : Nat) (ram : Sp) (m : Mm) (F : Nat → Prop) (N : Nat) (bm : Nat) (D : DataW Unit) (pg : Nat → Option Nat) : Prop where
  blk : Blk w p 123 #[.int .u64 (ram.base : Int), .int .u64 (ram.size : Int), .map (some bm)]
  own : w.ownsMap Tryz.prog 24 pgE bm N D
  at_ : ∀ k : Nat, k < 18446744073709551616 → D.atKey (.int .u64 (k : Int)) .nil = pgAt pg k
  rows : ∀ k g, pg k = some g → Blk w g 5 (bcells (pageOf m k)).toArray ∧ F g ∧ k < 18446744073709551616
  zero : ∀ k, pg k = none → ∀ i, i < 4096 → m (4096 * k + i) = 0
  inj : ∀ k k' g, pg k = some g → pg k' = some g → k = k'
  fp : F p
  fm : F bm
  flt : ∀ b, F b → b < w.heap.size
def PMem (w : World) (p : Nat) (ram : Sp) (m : Mm) (F : Nat → Prop) (N : Nat) : Prop := ∃ bm D pg, PM w p ram m F N bm D pg

namespace PM
variable {w w' : World} {p : Nat} {ram : Sp} {m : Mm} {F : Nat → Prop} {N bm : Nat} {D : DataW Unit} {pg : Nat → Option Nat}
theorem keep (h : PM w p ram m F N bm D pg) (hs : w.heap.size ≤ w'.heap.size) (hb : ∀ b, F b → w'.heap[b]? = w.heap[b]?) : PM w' p ram m F N bm D pg := by
  obtain ⟨es, clock, h1, h2, h3, h4⟩ := h.own
  exact ⟨(hb p h.fp).trans h.blk, ⟨es, clock, (hb bm h.fm).trans h1, h2, h3, h4⟩, h.at_, fun k g hk => ⟨(hb g (h.rows k g hk).2.1).trans (h.rows k g hk).1, (h.rows k g hk).2⟩, h.zero, h.inj, h.fp, h.fm, fun b hF => Nat.lt_of_lt_of_le (h.flt b hF) hs⟩
theorem chg (h : PM w p ram m F N bm D pg) {Z : Nat → Prop} (c : Chg Z w w') (hZ : ∀ b, F b → ¬ Z b) : PM w' p ram m F N bm D pg :=
  h.keep c.size fun b hb => c.block b (h.flt b hb) (hZ b hb)
theorem below (h : PM w p ram m F N bm D pg) {n : Nat} (c : Below n w w') (hn : w.heap.size ≤ n) : PM w' p ram m F N bm D pg :=
  h.keep c.size fun b hb => c.block b (Nat.lt_of_lt_of_le (h.flt b hb) hn)
theorem more (h : PM w p ram m F N bm D pg) {N' : Nat} (hN : N ≤ N') : PM w p ram m F N' bm D pg := ⟨h.blk, h.own.mono hN, h.at_, h.rows, h.zero, h.inj, h.fp, h.fm, h.flt⟩
theorem ne_gm (h : PM w p ram m F N bm D pg) {k g : Nat} (hk : pg k = some g) : g ≠ bm := by
  obtain ⟨es, clock, h1, _⟩ := h.own
  intro e
  have := (h.rows k g hk).1
  rw [e] at this
  unfold Blk at this
  rw [h1] at this
  cases this
theorem ne_gp (h : PM w p ram m F N bm D pg) {k g : Nat} (hk : pg k = some g) : g ≠ p := by
  intro e
  have h1 := (h.rows k g hk).1
  rw [e] at h1
  have h2 := h.blk
  unfold Blk at h1 h2
  rw [h1] at h2
  have := Option.some.inj h2
  injection this with h3 h4
  exact absurd h4 (by decide)
/-- a page is written -/
theorem put (h : PM w p ram m F N bm D pg) {k g o : Nat} {l : List UInt8} (hp : pg k = some g) (ho : o + l.length ≤ 4096) (hgr : w.grownBy w' (some g)) (hg : Blk w' g 5 (bcells ((pageOf m k).take o ++ l ++ (pageOf m k).drop (o + l.length))).toArray) :
    PM w' p ram (writeM m (4096 * k + o) l) F N bm D pg := by
  have hb : ∀ b, b ≠ g → b < w.heap.size → w'.heap[b]? = w.heap[b]? := fun b hb hl => hgr.block b hl (fun e => hb (Option.some.inj e))
  obtain ⟨es, clock, h1, h2, h3, h4⟩ := h.own
  have hmlt : bm < w.heap.size := (Array.getElem?_eq_some_iff.1 h1).1
  refine ⟨(hb p (h.ne_gp hp).symm h.blk.lt).trans h.blk, ⟨es, clock, (hb bm (h.ne_gm hp).symm hmlt).trans h1, h2, h3, h4⟩, h.at_, fun x gx hx => ?_, fun x hx i hi => ?_, h.inj, h.fp, h.fm, fun b hbF => Nat.lt_of_lt_of_le (h.flt b hbF) hgr.size⟩
  · obtain ⟨r1, r2, r3⟩ := h.rows x gx hx
    by_cases e : x = k
    · subst e
      rw [hp] at hx
      cases hx
      exact ⟨by rw [pageOf_write m x o l ho]; exact hg, r2, r3⟩
    · have hne : gx ≠ g := fun e2 => e (h.inj x k g (e2 ▸ hx) hp)
      rw [pageOf_other m k x o l ho e]
      exact ⟨(hb gx hne r1.lt).trans r1, r2, r3⟩
  · have e : x ≠ k := fun e => by rw [e, hp] at hx; cases hx
    rw [writeM_out]
    · exact h.zero x hx i hi
    · rcases Nat.lt_or_gt_of_ne e with h5 | h5 <;> omega
end PM
theorem PMem.keep {w w' : World} {p : Nat} {ram : Sp} {m : Mm} {F : Nat → Prop} {N : Nat} (h : PMem w p ram m F N) (hs : w.heap.size ≤ w'.heap.size) (hb : ∀ b, F b → b < w.heap.size → w'.heap[b]? = w.heap[b]?) : PMem w' p ram m F N := by
  obtain ⟨bm, D, pg, h⟩ := h
  exact ⟨bm, D, pg, h.keep hs (fun b hF => hb b hF (h.flt b hF))⟩
theorem PMem.more {w : World} {p : Nat} {ram : Sp} {m : Mm} {F : Nat → Prop} {N N' : Nat} (h : PMem w p ram m F N) (hN : N ≤ N') : PMem w p ram m F N' := by
  obtain ⟨bm, D, pg, h⟩ := h
  exact ⟨bm, D, pg, h.more hN⟩
theorem PMem.flt {w : World} {p : Nat} {ram : Sp} {m : Mm} {F : Nat → Prop} {N : Nat} (h : PMem w p ram m F N) : ∀ b, F b → b < w.heap.size := by
  obtain ⟨bm, D, pg, h⟩ := h
  exact h.flt
theorem PMem.below {w w' : World} {p : Nat} {ram : Sp} {m : Mm} {F : Nat → Prop} {N : Nat} (h : PMem w p ram m F N) {n : Nat} (c : Below n w w') (hn : w.heap.size ≤ n) : PMem w' p ram m F N :=
  h.keep c.size fun b _ hl => c.block b (Nat.lt_of_lt_of_le hl hn)
end Go.Proofs.YtipdmhppadapkaaGreatDoor
/-
  Walks: (*Mem).ask of both.
-/
namespace Go.Proofs.YtipdmhppadapkaaGreatDoor
open Go.RowKit

end Go.Proofs.YtipdmhppadapkaaGreatDoor
/-
  Walk: (*Mem).Read.
-/
namespace Go.Proofs.YtipdmhppadapkaaGreatDoor
open Go.RowKit

theorem el8m : Elem Tryz.prog 22 5 (.int .u8 0) 1 1 := Elem.of (by kernel_rfl) (by kernel_rfl) rfl (by omega)
def BErr (w : World) (L : List UInt8) (x : Int) (e : Ending) (w' : World) : Prop := ∃ A c, e = .returned (.tuple #[.slice A L.length c, .int .i64 x]) ∧ L.length ≤ c ∧ Rd w' w'.heap.size 1 A L.length (bcells L) ∧ Below w.heap.size w w'
theorem run_slice_lhK {P : Program} (w : World) (t : TypeId) (ht : P.underlying t = some (.slice (P.elem t))) (hs : (P.info? (P.elem t)).map (·.size) = some 1) (b off n c f k : Nat) (kl kh : IntKind) (L H : Int) (hL : L = f) (hH : H = ((f + k : Nat) : Int)) (hf : f + k ≤ c) :
    (Instr.slice t (.slice (some ⟨b, off, none⟩) n c) (some (.int kl L)) (some (.int kh H)) none).run P w = .ok (.slice (some (if c = f then ⟨b, off, none⟩ else ⟨b, off + f, none⟩)) k (c - f)) w := by
  subst hL hH
  obtain ⟨inf, hinf, hsz⟩ := Option.map_eq_some_iff.1 hs
  rw [run_slice_lh w t _ n c ht kl kh (f : Int) ((f + k : Nat) : Int) (by omega) (by omega) (by omega)]
  have e1 : ((f + k : Nat) : Int).toNat = f + k := by omega
  have e2 : (f : Int).toNat = f := by omega
  have es : (sizeOf (P.elem t)).run P w = .ok 1 w := by simp [sizeOf, typeInfo, hinf, hsz]
  rw [e1, e2, es]
  simp only [Result.andThen, sliced, Option.map_some, Nat.mul_one, Addr.add]
  have e3 : f + k - f = k := by omega
  rw [e3]
  by_cases hc : c = f
  · rw [if_pos hc, if_pos hc]
  · rw [if_neg hc, if_neg hc]
    by_cases h0 : f = 0
    · simp [h0]
    · rw [if_neg h0]
section
variable {P : Program} {o : Oper} {a : Act} {w : World} {t : TypeId} {x y z : Tmp} {v l h r : Value}
end

end Go.Proofs.YtipdmhppadapkaaGreatDoor
/-
  Walk: (*Mem).Write.
-/
namespace Go.Proofs.YtipdmhppadapkaaGreatDoor
open Go.RowKit

theorem rd_of_range {w : World} {b off B : Nat} {xs : List Value} (h : w.rangeAt b off xs) (hb : b < B) : Rd w B 1 (some ⟨b, off, none⟩) xs.length xs :=
  ⟨by simp, fun k v hv => ⟨_, rfl, hb, by rw [Addr.add_mid]; exact h k v hv⟩⟩
/-- a Mem behind a call that may have written it -/
def MAfter (w w' : World) (p : Nat) (ram : Sp) (m : Mm) (F : Nat → Prop) (N : Nat) : Prop := ∃ F', PMem w' p ram m F' N ∧ Chg F w w' ∧ (∀ b, F b → F' b) ∧ ∀ b, F' b → F b ∨ w.heap.size ≤ b
end Go.Proofs.YtipdmhppadapkaaGreatDoor
/-
  Walk: mach.NewMem.
-/
namespace Go.Proofs.YtipdmhppadapkaaGreatDoor
open Go.RowKit

/-- a chunk: where, and the slice that holds its bytes -/
structure Ck where
  at_ : Nat
  A : Option Addr
  n : Nat
  c : Nat
  l : List UInt8
def Ck.cells (k : Ck) : List Value := [.int .u64 (k.at_ : Int), .slice k.A k.n k.c]
structure Ck.ok (w : World) (B : Nat) (k : Ck) : Prop where
  at_ : k.at_ < 18446744073709551616
  cap : k.n ≤ k.c ∧ k.c ≤ 9223372036854775807
  rd : Rd w B 1 k.A k.n (bcells k.l)
theorem Ck.ok.len {w : World} {B : Nat} {k : Ck} (h : k.ok w B) : k.n = k.l.length := by have := h.rd.len; rw [bcells_length] at this; omega
end Go.Proofs.YtipdmhppadapkaaGreatDoor
/-
  Walks: (*Mem).Put, (*Mem).Word.
-/
namespace Go.Proofs.YtipdmhppadapkaaGreatDoor
open Go.RowKit

theorem MAfter.from {w w1 w2 : World} {p : Nat} {ram : Sp} {m : Mm} {F : Nat → Prop} {N : Nat} (hB : Below w.heap.size w w1) (h : MAfter w1 w2 p ram m F N) : MAfter w w2 p ram m F N := by
  obtain ⟨F', h1, h2, h3, h4⟩ := h
  refine ⟨F', h1, ((Chg.of_ext hB : Chg F w w1)).trans h2, h3, fun b hb => ?_⟩
  rcases h4 b hb with h5 | h5
  · exact .inl h5
  · exact .inr (Nat.le_trans hB.size h5)
theorem MAfter.same {w w1 : World} {p : Nat} {ram : Sp} {m : Mm} {F : Nat → Prop} {N : Nat} (hB : Below w.heap.size w w1) (h : PMem w p ram m F N) : MAfter w w1 p ram m F N :=
  ⟨F, h.below hB (Nat.le_refl _), Chg.of_ext hB, fun _ h => h, fun _ h => .inl h⟩
theorem MAfter.more {w w1 : World} {p : Nat} {ram : Sp} {m : Mm} {F : Nat → Prop} {N N' : Nat} (h : MAfter w w1 p ram m F N) (hN : N ≤ N') : MAfter w w1 p ram m F N' := by
  obtain ⟨F', h1, h2⟩ := h; exact ⟨F', h1.more hN, h2⟩
end Go.Proofs.YtipdmhppadapkaaGreatDoor
/-
  Walk: chapter 9's example.
-/
namespace Go.Proofs.YtipdmhppadapkaaGreatDoor
open Go.RowKit

end Go.Proofs.YtipdmhppadapkaaGreatDoor
/-
  Walk: the law MachWords.
-/
namespace Go.Proofs.YtipdmhppadapkaaGreatDoor
open Go.RowKit

end Go.Proofs.YtipdmhppadapkaaGreatDoor
/-
  Walks: memory and flash that nobody made; slices.Clone; the flash.
-/
namespace Go.Proofs.YtipdmhppadapkaaGreatDoor
open Go.RowKit

theorem flNe (p : Nat) (w : World) : (binOp .eql 43 (.pointer (some ⟨p, 0, none⟩)) (.pointer none)).run Tryz.prog w = .ok (.bool false) w := by kernel_rfl
end Go.Proofs.YtipdmhppadapkaaGreatDoor
/-
  Walks: slices.Clone; the flash; the law MachFlashes.
-/
namespace Go.Proofs.YtipdmhppadapkaaGreatDoor
open Go.RowKit

theorem run_empty (w : World) : (Instr.buildSlice 22 0 #[]).run Tryz.prog w = .ok (.slice (some ⟨w.heap.size, 0, none⟩) 0 0) (w.alloc (.cells #[] 5)) := by
  kernel_rfl
theorem sliceNe (a : Addr) (n c : Nat) (w : World) : (binOp .eql 22 (.slice (some a) n c) (.slice none 0 0)).run Tryz.prog w = .ok (.bool false) w := by kernel_rfl
theorem sliceNil (n c : Nat) (w : World) : (binOp .eql 22 (.slice none n c) (.slice none 0 0)).run Tryz.prog w = .ok (.bool true) w := by kernel_rfl

set_option maxRecDepth 100000 in
set_option maxHeartbeats 1000000 in
theorem clone_any (A : Option Addr) (n c : Nat) (l : List UInt8) (hn : n ≤ 1000000) (w : World) (hR : Rd w w.heap.size 1 A n (bcells l)) :
    Calls Tryz.prog 40 #[.slice A n c] w fun e w' => ∃ A' c', e = .returned (.slice A' n c') ∧ n ≤ c' ∧ Rd w' w'.heap.size 1 A' n (bcells l) ∧ Below w.heap.size w w' := by
  have hl : n = l.length := by have := hR.len; rw [bcells_length] at this; omega
  cases A with
  | none =>
    have h0 : n = 0 := by
      rcases Nat.eq_zero_or_pos n with h | h
      · exact h
      · obtain ⟨b, off, e, _⟩ := hR.range (by omega); cases e
    have hl0 : l = [] := List.eq_nil_of_length_eq_zero (by omega)
    subst hl0
    clear hl
    subst h0
    have hq := sliceNil 0 c
    go_enter Tryz.func40, Tryz.ntmps40
    go_wp2
    go_ret
    exact ⟨none, 0, rfl, Nat.le_refl _, Rd.nil _ _ _ _, Below.refl _ _⟩
  | some a =>
    have hq := sliceNe a n c
    have HL := Lib.hid hl
    clear hl
    go_enter Tryz.func40, Tryz.ntmps40
    have hb := Blk.new w 5 #[]
    have B1 : Below w.heap.size w (w.alloc (.cells #[] 5)) := (Below.refl _ _).alloc (Nat.le_refl _) _
    have hO := hb.own (base := w.heap.size) (size := 1) (n := 0) (m := 0) (Nat.le_refl _) rfl (Nat.le_refl _) (by omega)
    have hR1 := (hR.below B1).more B1.size
    go_wp2_with (first
      | ((with_reducible refine at_buildSlice 22 ?_); refine wpList_runV rfl (Flow.reg_buildSlice #[] rfl (by simp) (run_empty w)) ?_)
      | (at_builtin; refine wpList_app _ el8m rfl _ _ rfl w.heap.size (some ⟨w.heap.size, 0, none⟩) 0 0 [] rfl (by simpa using hO) _ (some a) n c _ rfl hR1 (bcells_one l) (by omega) (by omega) (by simp) ?_; intro A1 c1 w1 hO1 hg hB _))
    go_ret
    rw [List.nil_append, Nat.zero_add] at hO1
    refine ⟨A1, c1, ?_, ?_, Rd.of_own hO1, B1.trans hB⟩
    · rfl
    · exact Flow.own_le hO1

/-- a flash: its bytes -/
def FL (w : World) (f : Nat) (l : List UInt8) : Prop := ∃ A c, Blk w f 91 #[.slice A l.length c] ∧ l.length ≤ c ∧ Rd w w.heap.size 1 A l.length (bcells l)
theorem FL.below {w w' : World} {f : Nat} {l : List UInt8} (h : FL w f l) (hB : Below w.heap.size w w') : FL w' f l := by
  obtain ⟨A, c, h1, h2, h3⟩ := h
  exact ⟨A, c, h1.below hB h1.lt, h2, (h3.below hB).more hB.size⟩
def getE (l : List UInt8) (off n : Nat) : Int := if n = 0 then 0 else if l.length < off + n then 151 else 0
def getV (l : List UInt8) (off n : Nat) : List UInt8 := if n = 0 then [] else if l.length < off + n then [] else (l.drop off).take n
theorem getV_ok {l : List UInt8} {off n : Nat} (h0 : ¬ n = 0) (h1 : ¬ l.length < off + n) : getV l off n = (l.drop off).take n ∧ getE l off n = 0 ∧ (getV l off n).length = n := by
  have e : getV l off n = (l.drop off).take n := by rw [getV, if_neg h0, if_neg h1]
  refine ⟨e, by rw [getE, if_neg h0, if_neg h1], ?_⟩
  rw [e, List.length_take, List.length_drop]; omega
theorem rd_partM {w : World} {B b off n c : Nat} {l : List UInt8} (hR : Rd w B 1 (some ⟨b, off, none⟩) n (bcells l)) (hc : n ≤ c) (f k : Nat) (hk : f + k ≤ n) :
    Rd w B 1 (some (if c = f then ⟨b, off, none⟩ else ⟨b, off + f, none⟩)) k (bcells ((l.drop f).take k)) := by
  have h1 := (hR.cut (k := f) hc).front (k := k) (by omega)
  have e1 : ((bcells l).drop (f * 1)).take (k * 1) = bcells ((l.drop f).take k) := by rw [Nat.mul_one, Nat.mul_one]; simp [bcells]
  rw [e1] at h1
  have e2 : (if c = f then (some ⟨b, off, none⟩ : Option Addr) else (some ⟨b, off, none⟩ : Option Addr).map (·.add (f * 1))) = some (if c = f then ⟨b, off, none⟩ else ⟨b, off + f, none⟩) := by
    split
    · rfl
    · simp [Addr.add]
  rw [e2] at h1
  exact h1
theorem run_fl (w : World) (A : Option Addr) (n c : Nat) : (Instr.build 91 #[(0, .slice A n c)]).run Tryz.prog w = .ok (.agg #[.slice A n c]) w := by
  have := run_build_rows (P := Tryz.prog) w (t := 91) (z := #[.slice none 0 0]) #[(0, .slice A n c)] [.slice A n c] [(0, 1)]
    Tryz.underlying91 (by kernel_rfl) (by kernel_rfl) rfl (by simp [Rows1, Value.cells]) (by simp [flat, Value.cells])
  simpa [flat, Value.cells] using this

set_option maxRecDepth 100000 in
theorem burn_any (A : Option Addr) (n c : Nat) (l : List UInt8) (hn : n ≤ 1000000) (w : World) (hR : Rd w w.heap.size 1 A n (bcells l)) :
    Calls Tryz.prog 11 #[.slice A n c] w fun e w' => ∃ f, e = .returned (.pointer (some ⟨f, 0, none⟩)) ∧ w.heap.size ≤ f ∧ FL w' f l ∧ Below w.heap.size w w' := by
  have hl : n = l.length := by have := hR.len; rw [bcells_length] at this; omega
  have HL := Lib.hid hl
  clear hl
  go_enter Tryz.func11, Tryz.ntmps11
  go_wp2_with fail
  refine (clone_any A n c l hn w hR).mono ?_
  rintro e W1 ⟨A1, c1, rfl, h1, hR1, B1⟩
  go_wp2_with ((with_reducible refine at_build 91 ?_); refine wpList_buildV _ rfl #[(0, .slice A1 n c1)] rfl (by simp [Act.eval]) (run_fl _ _ _ _) ?_)
  go_ret
  refine ⟨W1.heap.size, rfl, B1.size, ⟨A1, c1, ?_, ?_, ?_⟩, B1.alloc B1.size _⟩
  · rw [← HL.out]; exact Blk.new _ _ _
  · rw [← HL.out]; exact h1
  · rw [← HL.out]; exact (hR1.alloc (Nat.le_refl _) _).more (by simp)
set_option maxRecDepth 100000 in
set_option maxHeartbeats 1000000 in
theorem mget_any (f : Nat) (l : List UInt8) (hl5 : l.length ≤ 1000000) (off n : Nat) (ho : off < 4294967296) (hn : n < 4294967296) (w : World) (hF : FL w f l) :
    Calls Tryz.prog 73 #[.pointer (some ⟨f, 0, none⟩), .int .u32 (off : Int), .int .u32 (n : Int)] w (BErr w (getV l off n) (getE l off n)) := by
  obtain ⟨A, c, h1, h2, h3⟩ := hF
  have c0 : w.cell? ⟨f, 0, none⟩ = some (.slice A l.length c) := (h1.cell 0).trans rfl
  have hq := flNe f
  obtain ⟨LN, hLN⟩ : ∃ k, k = l.length := ⟨_, rfl⟩
  rw [← hLN] at c0 h2 h3 hl5
  have HLN := Lib.hid hLN
  have e1 : IntKind.u64.wrap (off : Int) = (off : Int) := IntWalk.u64_in _ (by omega)
  have e2 : IntKind.u64.wrap (n : Int) = (n : Int) := IntWalk.u64_in _ (by omega)
  have e3 : IntKind.u64.wrap (LN : Int) = (LN : Int) := IntWalk.u64_in _ (by omega)
  have e4 : IntKind.u64.wrap ((off : Int) + (n : Int)) = (off : Int) + (n : Int) := IntWalk.u64_in _ (by omega)
  clear h1 hLN
  by_cases h0 : n = 0
  · subst h0
    go_enter Tryz.func73, Tryz.ntmps73
    go_wp2
    go_ret2
    rw [getV, getE, if_pos rfl, if_pos rfl]
    exact ⟨none, 0, rfl, Nat.le_refl _, Rd.nil _ _ _ _, Below.refl _ _⟩
  · by_cases hlt : LN < off + n
    · have hv : Hid (getV l off n = [] ∧ getE l off n = 151) := Lib.hid (by rw [getV, getE, if_neg h0, if_neg h0, if_pos (by rw [← HLN.out]; exact hlt), if_pos (by rw [← HLN.out]; exact hlt)]; exact ⟨rfl, rfl⟩)
      have hpos : 0 < n := by omega
      have hlti : (LN : Int) < (off : Int) + (n : Int) := by omega
      clear h0 hlt
      go_enter Tryz.func73, Tryz.ntmps73
      go_wp2
      go_ret2
      rw [hv.out.1, hv.out.2]
      exact ⟨none, 0, rfl, Nat.le_refl _, Rd.nil _ _ _ _, Below.refl _ _⟩
    · obtain ⟨g1, g2, g3⟩ := getV_ok h0 (show ¬ l.length < off + n by rw [← HLN.out]; exact hlt)
      obtain ⟨b, o, rfl, _, _⟩ := h3.range (by omega)
      have hp := rd_partM h3 h2 off n (by omega)
      rw [← g1] at hp
      have hsl := fun W => run_slice_lhK (P := Tryz.prog) W 22 (by kernel_rfl) (by kernel_rfl) b o LN c off n .u32 .u64 (off : Int) ((off : Int) + (n : Int)) rfl (by omega) (by omega)
      generalize (if c = off then (⟨b, o, none⟩ : Addr) else ⟨b, o + off, none⟩) = A1 at hp hsl
      have hcl := clone_any (some A1) n (c - off) (getV l off n) (by omega) w hp
      have hpos : 0 < n := by omega
      have hle : (off : Int) + (n : Int) ≤ (LN : Int) := by omega
      have G2 := Lib.hid g2
      have G3 := Lib.hid g3
      clear h0 hlt g1 g2 g3 hp
      go_enter Tryz.func73, Tryz.ntmps73
      go_wp2_with fail
      refine Calls.mono hcl ?_
      rintro e W1 ⟨A2, c2, rfl, k1, k2, k3⟩
      clear hcl hsl
      go_wp2
      go_ret2
      rw [G2.out]
      exact ⟨A2, c2, by rw [G3.out]; rfl, by rw [G3.out]; exact k1, by rw [G3.out]; exact k2, k3⟩
/-- .. and it lies below bs -/
def BErrB (bs : Nat) (w : World) (L : List UInt8) (x : Int) (e : Ending) (w' : World) : Prop := ∃ A c, e = .returned (.tuple #[.slice A L.length c, .int .i64 x]) ∧ L.length ≤ c ∧ Rd w' bs 1 A L.length (bcells L) ∧ Below w.heap.size w w'
set_option maxRecDepth 100000 in
set_option maxHeartbeats 1000000 in
theorem rget_bs (A : Option Addr) (LN c : Nat) (l : List UInt8) (hl5 : LN ≤ 1000000) (hcc : LN ≤ c) (off n : Nat) (ho : off < 4294967296) (hn : n < 4294967296) (w : World) (bs : Nat) (h3 : Rd w bs 1 A LN (bcells l)) :
    Calls Tryz.prog 13 #[.slice A LN c, .int .u32 (off : Int), .int .u32 (n : Int)] w (BErrB bs w (getV l off n) (getE l off n)) := by
  have hLN : LN = l.length := by have := h3.len; rw [bcells_length] at this; omega
  have HLN := Lib.hid hLN
  have e1 : IntKind.u64.wrap (off : Int) = (off : Int) := IntWalk.u64_in _ (by omega)
  have e2 : IntKind.u64.wrap (n : Int) = (n : Int) := IntWalk.u64_in _ (by omega)
  have e3 : IntKind.u64.wrap (LN : Int) = (LN : Int) := IntWalk.u64_in _ (by omega)
  have e4 : IntKind.u64.wrap ((off : Int) + (n : Int)) = (off : Int) + (n : Int) := IntWalk.u64_in _ (by omega)
  clear hLN
  by_cases h0 : n = 0
  · subst h0
    go_enter Tryz.func13, Tryz.ntmps13
    go_wp2
    go_ret2
    rw [getV, getE, if_pos rfl, if_pos rfl]
    exact ⟨none, 0, rfl, Nat.le_refl _, Rd.nil _ _ _ _, Below.refl _ _⟩
  · by_cases hlt : LN < off + n
    · have hv : Hid (getV l off n = [] ∧ getE l off n = 151) := Lib.hid (by rw [getV, getE, if_neg h0, if_neg h0, if_pos (by rw [← HLN.out]; exact hlt), if_pos (by rw [← HLN.out]; exact hlt)]; exact ⟨rfl, rfl⟩)
      have hpos : 0 < n := by omega
      have hlti : (LN : Int) < (off : Int) + (n : Int) := by omega
      clear h0 hlt
      go_enter Tryz.func13, Tryz.ntmps13
      go_wp2
      go_ret2
      rw [hv.out.1, hv.out.2]
      exact ⟨none, 0, rfl, Nat.le_refl _, Rd.nil _ _ _ _, Below.refl _ _⟩
    · obtain ⟨g1, g2, g3⟩ := getV_ok h0 (show ¬ l.length < off + n by rw [← HLN.out]; exact hlt)
      obtain ⟨b, o, rfl, _, _⟩ := h3.range (by omega)
      have hp := rd_partM h3 hcc off n (by omega)
      rw [← g1] at hp
      have hsl := fun W => run_slice_lhK (P := Tryz.prog) W 22 (by kernel_rfl) (by kernel_rfl) b o LN c off n .u32 .u64 (off : Int) ((off : Int) + (n : Int)) rfl (by omega) (by omega)
      generalize (if c = off then (⟨b, o, none⟩ : Addr) else ⟨b, o + off, none⟩) = A1 at hp hsl
      have hpos : 0 < n := by omega
      have hle : (off : Int) + (n : Int) ≤ (LN : Int) := by omega
      have G2 := Lib.hid g2
      have G3 := Lib.hid g3
      clear h0 hlt g1 g2 g3
      go_enter Tryz.func13, Tryz.ntmps13
      go_wp2
      go_ret2
      rw [G2.out]
      exact ⟨some A1, c - off, by rw [G3.out]; rfl, by rw [G3.out]; omega, by rw [G3.out]; exact hp, Below.refl _ _⟩
theorem rget_any (A : Option Addr) (LN c : Nat) (l : List UInt8) (hl5 : LN ≤ 1000000) (hcc : LN ≤ c) (off n : Nat) (ho : off < 4294967296) (hn : n < 4294967296) (w : World) (h3 : Rd w w.heap.size 1 A LN (bcells l)) :
    Calls Tryz.prog 13 #[.slice A LN c, .int .u32 (off : Int), .int .u32 (n : Int)] w (BErr w (getV l off n) (getE l off n)) :=
  (rget_bs A LN c l hl5 hcc off n ho hn w w.heap.size h3).mono fun _ _ ⟨A, c, h1, h2, h3, h4⟩ => ⟨A, c, h1, h2, h3.more h4.size, h4⟩
end Go.Proofs.YtipdmhppadapkaaGreatDoor
