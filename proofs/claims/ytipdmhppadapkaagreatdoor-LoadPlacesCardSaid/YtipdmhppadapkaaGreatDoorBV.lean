/-
  Parts: MaQ MaR MaS MaT MaU MaV MaW MaX MaY.
-/
import Derived.Test.YtipdmhppadapkaaGreatDoorBM
import Derived.Lib.AppendZeros
/-
  Walk: the law MachFlashes.
-/
namespace Go.Proofs.YtipdmhppadapkaaGreatDoor
open Go.RowKit

theorem nat_u64 {a : Int} (h : (Lit.int .u64 a).wf = true) : ∃ n : Nat, n < 18446744073709551616 ∧ a = n := by
  simp [Lit.wf, IntKind.min, IntKind.max, IntKind.bits, IntKind.signed] at h
  exact ⟨a.toNat, by omega, by omega⟩

end Go.Proofs.YtipdmhppadapkaaGreatDoor
/-
  Walk: portreevelaw09.few: whether deeds and chunks are few.
-/
namespace Go.Proofs.YtipdmhppadapkaaGreatDoor
open Go.RowKit

structure Dd where
  kind : Int
  at_ : Nat
  num : Nat
  A : Option Addr
  n : Nat
  c : Nat
  l : List UInt8
def Dd.cells (d : Dd) : List Value := [.int .i64 d.kind, .int .u64 (d.at_ : Int), .int .u64 (d.num : Int), .slice d.A d.n d.c]
structure Dd.ok (w : World) (B : Nat) (d : Dd) : Prop where
  kind : (Lit.int .i64 d.kind).wf = true
  at_ : d.at_ < 18446744073709551616
  num : d.num < 18446744073709551616
  cap : d.n ≤ d.c ∧ d.c ≤ 9223372036854775807
  rd : Rd w B 1 d.A d.n (bcells d.l)
theorem Dd.ok.len {w : World} {B : Nat} {d : Dd} (h : d.ok w B) : d.n = d.l.length := by have := h.rd.len; rw [bcells_length] at this; omega
theorem ck_one (d : Ck) : ∀ v ∈ d.cells.toArray.toList, v.oneCell' = true := by
  intro v hv; simp only [Ck.cells, List.mem_cons, List.not_mem_nil, or_false] at hv; rcases hv with rfl | rfl <;> rfl

end Go.Proofs.YtipdmhppadapkaaGreatDoor
/-
  Walk: the law MachKeeps.
-/
namespace Go.Proofs.YtipdmhppadapkaaGreatDoor
open Go.RowKit

end Go.Proofs.YtipdmhppadapkaaGreatDoor
/-
  The reference's Mem in memory: a row of pages. Walks: its ask, its find.
-/
namespace Go.Proofs.YtipdmhppadapkaaGreatDoor
open Go.RowKit

def pcell (x : Nat × Nat) : List Value := [.int .u64 ((4096 * x.1 : Nat) : Int), pgV x.2]
def pcells (ps : List (Nat × Nat)) : List Value := ps.flatMap pcell
theorem pcells_length (l : List (Nat × Nat)) : (pcells l).length = l.length * 2 := by
  induction l with
  | nil => rfl
  | cons s l ih => simp only [pcells, List.flatMap_cons, List.length_append] at *; rw [ih]; simp [pcell]; omega
theorem pcells_snoc (l : List (Nat × Nat)) (x : Nat × Nat) : pcells (l ++ [x]) = pcells l ++ pcell x := by simp [pcells]
theorem pcells_get : ∀ (l : List (Nat × Nat)) (k : Nat) (s : Nat × Nat), l[k]? = some s → ((pcells l).drop (k * 2)).take 2 = pcell s
  | [], k, s, h => by simp at h
  | x :: l, 0, s, h => by
    simp at h; subst h
    simp [pcells, pcell]
  | x :: l, k + 1, s, h => by
    have := pcells_get l k s (by simpa using h)
    simp only [pcells, List.flatMap_cons]
    rw [show (k + 1) * 2 = 2 + k * 2 by omega, ← List.drop_drop, List.drop_left' (by simp [pcell])]
    exact this
theorem rd_page {w : World} {B n : Nat} {b off : Nat} {l : List (Nat × Nat)} (h : Rd w B 2 (some ⟨b, off, none⟩) n (pcells l)) (k : Nat) (s : Nat × Nat) (hk : l[k]? = some s) : w.rangeAt b (off + k * 2) (pcell s) := by
  obtain ⟨hlt, _⟩ := List.getElem?_eq_some_iff.1 hk
  have hn : n = l.length := by have := h.len; rw [pcells_length] at this; omega
  obtain ⟨b', off', e, _, hr⟩ := h.range (by omega)
  cases e
  intro j v hv
  have hg := pcells_get l k s hk
  have hv2 : (pcells l)[k * 2 + j]? = some v := by
    have h1 : (((pcells l).drop (k * 2)).take 2)[j]? = some v := by rw [hg]; exact hv
    rw [List.getElem?_take] at h1
    split at h1
    · rwa [List.getElem?_drop] at h1
    · cases h1
  have := hr (k * 2 + j) v hv2
  rwa [← Nat.add_assoc] at this
theorem elPg : Elem Tryz.prog 126 139 (.agg #[.int .u64 0, .slice none 0 0]) 2 32 := Elem.of (by kernel_rfl) (by kernel_rfl) rfl (by omega)

/-- the reference's Mem at block r: its memory m, its blocks F, its pages ps -/
structure RM (w : World) (r : Nat) (ram : Sp) (m : Mm) (F : Nat → Prop) (ps : List (Nat × Nat)) (A : Option Addr) (c : Nat) : Prop where
  blk : Blk w r 128 #[.int .u64 (ram.base : Int), .int .u64 (ram.size : Int), .slice A ps.length c]
  own : w.ownsRow 0 139 2 (.slice A ps.length c) ps.length (pcells ps)
  ownF : ∀ b, (Value.slice A ps.length c).ownBlock = some b → F b
  rows : ∀ x ∈ ps, Blk w x.2 5 (bcells (pageOf m x.1)).toArray ∧ F x.2 ∧ x.1 < 4503599627370496
  zero : ∀ k, (∀ x ∈ ps, x.1 ≠ k) → ∀ i, i < 4096 → m (4096 * k + i) = 0
  dist : ps.Pairwise (fun x y => x.1 ≠ y.1 ∧ x.2 ≠ y.2)
  fr : F r
  flt : ∀ b, F b → b < w.heap.size
def RMem (w : World) (r : Nat) (ram : Sp) (m : Mm) (F : Nat → Prop) (N : Nat) : Prop := ∃ ps A c, RM w r ram m F ps A c ∧ ps.length ≤ N

namespace RM
variable {w w' : World} {r : Nat} {ram : Sp} {m : Mm} {F : Nat → Prop} {ps : List (Nat × Nat)} {A : Option Addr} {c : Nat}
theorem keep (h : RM w r ram m F ps A c) (hs : w.heap.size ≤ w'.heap.size) (hb : ∀ b, F b → w'.heap[b]? = w.heap[b]?) : RM w' r ram m F ps A c := by
  refine ⟨(hb r h.fr).trans h.blk, ⟨h.own.1, ?_⟩, h.ownF, fun x hx => ⟨(hb x.2 (h.rows x hx).2.1).trans (h.rows x hx).1, (h.rows x hx).2⟩, h.zero, h.dist, h.fr, fun b hF => Nat.lt_of_lt_of_le (h.flt b hF) hs⟩
  rcases h.own.2 with h2 | ⟨g, cap, cur, e, h3, h4, h5⟩
  · exact .inl h2
  · exact .inr ⟨g, cap, cur, e, h3, (hb g (h.ownF g (by rw [e]; rfl))).trans h4, h5⟩
theorem chg (h : RM w r ram m F ps A c) {Z : Nat → Prop} (k : Chg Z w w') (hZ : ∀ b, F b → ¬ Z b) : RM w' r ram m F ps A c :=
  h.keep k.size fun b hb => k.block b (h.flt b hb) (hZ b hb)
theorem below (h : RM w r ram m F ps A c) {n : Nat} (k : Below n w w') (hn : w.heap.size ≤ n) : RM w' r ram m F ps A c :=
  h.keep k.size fun b hb => k.block b (Nat.lt_of_lt_of_le (h.flt b hb) hn)
theorem own_r (h : RM w r ram m F ps A c) {b : Nat} (hb : (Value.slice A ps.length c).ownBlock = some b) : b ≠ r := own_ne h.own h.blk (by decide) hb
theorem own_g (h : RM w r ram m F ps A c) {b : Nat} (hb : (Value.slice A ps.length c).ownBlock = some b) {x : Nat × Nat} (hx : x ∈ ps) : b ≠ x.2 := own_ne h.own (h.rows x hx).1 (by decide) hb
theorem g_r (h : RM w r ram m F ps A c) {x : Nat × Nat} (hx : x ∈ ps) : x.2 ≠ r := by
  intro e
  have h1 := (h.rows x hx).1
  rw [e] at h1
  have h2 := h.blk
  unfold Blk at h1 h2
  rw [h1] at h2
  have := Option.some.inj h2
  injection this with h3 h4
  exact absurd h4 (by decide)
theorem uniq (h : RM w r ram m F ps A c) : ∀ {x y : Nat × Nat}, x ∈ ps → y ∈ ps → (x.1 = y.1 ∨ x.2 = y.2) → x = y := by
  have hd := h.dist
  clear h
  induction ps with
  | nil => intro x y hx; cases hx
  | cons z l ih =>
    obtain ⟨h1, h2⟩ := List.pairwise_cons.1 hd
    intro x y hx hy e
    rcases List.mem_cons.1 hx with rfl | hx' <;> rcases List.mem_cons.1 hy with rfl | hy'
    · rfl
    · rcases e with e | e
      · exact absurd e (h1 y hy').1
      · exact absurd e (h1 y hy').2
    · rcases e with e | e
      · exact absurd e.symm (h1 x hx').1
      · exact absurd e.symm (h1 x hx').2
    · exact ih h2 hx' hy' e
/-- a page is written -/
theorem put (h : RM w r ram m F ps A c) {x : Nat × Nat} {o : Nat} {l : List UInt8} (hx : x ∈ ps) (ho : o + l.length ≤ 4096) (hgr : w.grownBy w' (some x.2)) (hg : Blk w' x.2 5 (bcells ((pageOf m x.1).take o ++ l ++ (pageOf m x.1).drop (o + l.length))).toArray) :
    RM w' r ram (writeM m (4096 * x.1 + o) l) F ps A c := by
  have hb : ∀ b, b ≠ x.2 → b < w.heap.size → w'.heap[b]? = w.heap[b]? := fun b hb hl => hgr.block b hl (fun e => hb (Option.some.inj e))
  refine ⟨(hb r (h.g_r hx).symm h.blk.lt).trans h.blk, ⟨h.own.1, ?_⟩, h.ownF, fun y hy => ?_, fun k hk i hi => ?_, h.dist, h.fr, fun b hF => Nat.lt_of_lt_of_le (h.flt b hF) hgr.size⟩
  · rcases h.own.2 with h2 | ⟨g, cap, cur, e, h3, h4, h5⟩
    · exact .inl h2
    · exact .inr ⟨g, cap, cur, e, h3, (hb g (h.own_g (by rw [e]; rfl) hx) (Array.getElem?_eq_some_iff.1 h4).1).trans h4, h5⟩
  · obtain ⟨r1, r2, r3⟩ := h.rows y hy
    by_cases e : y.1 = x.1
    · obtain rfl := h.uniq hy hx (.inl e)
      exact ⟨by rw [pageOf_write m y.1 o l ho]; exact hg, r2, r3⟩
    · have hne : y.2 ≠ x.2 := fun e2 => e (by rw [h.uniq hy hx (.inr e2)])
      rw [pageOf_other m x.1 y.1 o l ho e]
      exact ⟨(hb y.2 hne r1.lt).trans r1, r2, r3⟩
  · have e := hk x hx
    rw [writeM_out]
    · exact h.zero k hk i hi
    · rcases Nat.lt_or_gt_of_ne e with h5 | h5 <;> omega
/-- a page more, of zeros -/
theorem make (h : RM w r ram m F ps A c) {k g : Nat} {A1 : Option Addr} {c1 : Nat} (hk : k < 4503599627370496) (hnone : ∀ x ∈ ps, x.1 ≠ k) (C : Chg F w w')
    (hb : Blk w' r 128 #[.int .u64 (ram.base : Int), .int .u64 (ram.size : Int), .slice A1 (ps.length + 1) c1])
    (ho : w'.ownsRow 0 139 2 (.slice A1 (ps.length + 1) c1) (ps.length + 1) (pcells ps ++ pcell (k, g))) (hob : ∀ b, (Value.slice A1 (ps.length + 1) c1).ownBlock = some b → (Value.slice A ps.length c).ownBlock = some b ∨ w.heap.size ≤ b)
    (hg : Blk w' g 5 (bcells (List.replicate 4096 0)).toArray) (hgn : w.heap.size ≤ g) (hsame : ∀ x ∈ ps, w'.heap[x.2]? = w.heap[x.2]?) :
    ∃ F', RM w' r ram m F' (ps ++ [(k, g)]) A1 c1 ∧ (∀ b, F b → F' b) ∧ ∀ b, F' b → F b ∨ w.heap.size ≤ b := by
  have e : (ps ++ [(k, g)]).length = ps.length + 1 := by simp
  refine ⟨fun b => F b ∨ b = g ∨ (Value.slice A1 (ps.length + 1) c1).ownBlock = some b, ⟨by rw [e]; exact hb, by rw [e, pcells_snoc]; exact ho, fun b hb => .inr (.inr (by rw [e] at hb; exact hb)), fun x hx => ?_, fun j hj i hi => ?_, ?_, .inl h.fr, ?_⟩, fun _ h => .inl h, ?_⟩
  · rcases List.mem_append.1 hx with hx | hx
    · obtain ⟨r1, r2, r3⟩ := h.rows x hx
      exact ⟨(hsame x hx).trans r1, .inl r2, r3⟩
    · obtain rfl := List.mem_singleton.1 hx
      exact ⟨by rw [pageOf_zero m k (h.zero k hnone)]; exact hg, .inr (.inl rfl), hk⟩
  · exact h.zero j (fun x hx => hj x (List.mem_append_left _ hx)) i hi
  · refine List.pairwise_append.2 ⟨h.dist, List.pairwise_singleton _ _, fun x hx y hy => ?_⟩
    obtain rfl := List.mem_singleton.1 hy
    exact ⟨hnone x hx, fun e2 => by have := h.flt _ (h.rows x hx).2.1; have e3 : x.2 = g := e2; omega⟩
  · rintro b (h1 | rfl | h1)
    · exact Nat.lt_of_lt_of_le (h.flt b h1) C.size
    · exact hg.lt
    · exact (ho.lt b h1).2
  · rintro b (h1 | rfl | h1)
    · exact .inl h1
    · exact .inr hgn
    · rcases hob b h1 with h2 | h2
      · exact .inl (h.ownF b h2)
      · exact .inr h2
end RM

set_option maxRecDepth 100000 in
set_option maxHeartbeats 1000000 in
theorem rask_any (r : Nat) (ram : Sp) (okr : ram.ok) (v : Value) (a n : Nat) (ha : a < 18446744073709551616) (hn : n < 18446744073709551616) (w : World) (hb : Blk w r 128 #[.int .u64 (ram.base : Int), .int .u64 (ram.size : Int), v]) :
    Calls Tryz.prog 71 #[.pointer (some ⟨r, 0, none⟩), .int .u64 (a : Int), .int .u64 (n : Int)] w fun e w' => e = .returned (.int .i64 (askErr ram a n)) ∧ Below w.heap.size w w' := by
  have hr := pm_ram hb
  by_cases h1 : 1048576 < n
  · have he : Hid (askErr ram a n = 2) := Lib.hid (by rw [askErr, if_pos h1])
    have hd : decide ((1048576 : Int) < (n : Int)) = true := decide_eq_true (by omega)
    clear h1 hb
    go_enter Tryz.func71, Tryz.ntmps71
    go_wp2
    go_ret
    exact ⟨ret_int he.out.symm, Below.refl _ _⟩
  · have hd : decide ((1048576 : Int) < (n : Int)) = false := decide_eq_false (by omega)
    by_cases h0 : n = 0
    · subst h0
      have he : Hid (askErr ram a 0 = 0) := Lib.hid (by rw [askErr, if_neg h1, if_neg (by omega)])
      clear h1 hb hd
      go_enter Tryz.func71, Tryz.ntmps71
      go_wp2
      go_ret
      exact ⟨ret_int he.out.symm, Below.refl _ _⟩
    · have hpos : 0 < n := by omega
      have he : Hid (askErr ram a n = if (Sp.mk a n).within ram then 0 else 90) := Lib.hid (by
        rw [askErr, if_neg h1]
        cases (Sp.mk a n).within ram
        · rw [if_pos ⟨by omega, rfl⟩]; rfl
        · rw [if_neg (by simp)]; rfl)
      have hw := rwithin_any ⟨a, n⟩ ram ⟨ha, hn⟩ okr w
      obtain ⟨q, hq⟩ : ∃ q, q = (Sp.mk a n).within ram := ⟨_, rfl⟩
      rw [← hq] at hw he
      clear h1 hb h0 hq
      have hd0 : decide ((0 : Int) < (n : Int)) = true := decide_eq_true (by omega)
      go_enter Tryz.func71, Tryz.ntmps71
      go_wp2_with (first
        | ((with_reducible refine at_load 61 ?_); refine wpList_load_midW rfl 61 _ rfl r 0 rfl ram.cells.toList _ hr Tryz.underlying61 rfl infSpan ?_)
        | ((with_reducible refine at_build 61 ?_); refine wpList_buildV _ rfl #[(0, .int .u64 (a : Int)), (1, .int .u64 (n : Int))] rfl (by simp [Act.eval]) (run_sp _ _ _) ?_))
      refine Calls.mono hw ?_
      rintro e w2 ⟨rfl, hB⟩
      clear hw hr
      cases q
      all_goals
        go_wp2
        go_ret
        exact ⟨ret_int he.out.symm, hB⟩
end Go.Proofs.YtipdmhppadapkaaGreatDoor
/-
  Walk: the reference's find.
-/
namespace Go.Proofs.YtipdmhppadapkaaGreatDoor
open Go.RowKit

theorem run_page (w : World) (at_ b : Nat) : (Instr.build 139 #[(0, .int .u64 (at_ : Int)), (1, pgV b)]).run Tryz.prog w = .ok (.agg #[.int .u64 (at_ : Int), pgV b]) w := by
  have := run_build_rows (P := Tryz.prog) w (t := 139) (z := #[.int .u64 0, .slice none 0 0]) #[(0, .int .u64 (at_ : Int)), (1, pgV b)] [.int .u64 (at_ : Int), pgV b] [(0, 1), (1, 1)]
    Tryz.underlying139 (by kernel_rfl) (by kernel_rfl) rfl (by simp [Rows1, Value.cells, pgV]) (by simp [flat, Value.cells, pgV])
  simpa [flat, Value.cells, pgV] using this
theorem run_pages1 (w : World) (at_ b : Nat) : (Instr.buildSlice 126 1 #[(0, .agg #[.int .u64 (at_ : Int), pgV b])]).run Tryz.prog w = .ok (.slice (some ⟨w.heap.size, 0, none⟩) 1 1) (w.alloc (.cells #[.int .u64 (at_ : Int), pgV b] 139)) := by
  have := run_buildSlice_all (P := Tryz.prog) w elPg 1 #[(0, .agg #[.int .u64 (at_ : Int), pgV b])] [.agg #[.int .u64 (at_ : Int), pgV b]] rfl rfl (by omega) (by omega) (by simp [Value.cells])
  simpa [flat, Value.cells] using this
theorem grown_setM (w : World) (g k' : Nat) (v : Value) : w.grownBy (w.setCell ⟨g, k', none⟩ v) (some g) := ⟨rfl, rfl, rfl, by simp, fun k _ hk => heap_setCell_other w ⟨g, k', none⟩ k v (fun e => hk (by simp [e]))⟩
/-- what find comes to -/
def FindRet (w : World) (r : Nat) (ram : Sp) (m : Mm) (F : Nat → Prop) (ps : List (Nat × Nat)) (k : Nat) (made : Bool) (e : Ending) (w' : World) : Prop :=
  (∃ j x, e = .returned (.int .i64 ((j : Nat) : Int)) ∧ ps[j]? = some x ∧ x.1 = k ∧ w' = w) ∨
  ((∀ x ∈ ps, x.1 ≠ k) ∧ made = false ∧ e = .returned (.int .i64 (-1)) ∧ w' = w) ∨
  ((∀ x ∈ ps, x.1 ≠ k) ∧ made = true ∧ e = .returned (.int .i64 (ps.length : Int)) ∧ ∃ F' A1 c1 g, RM w' r ram m F' (ps ++ [(k, g)]) A1 c1 ∧ Chg F w w' ∧ (∀ b, F b → F' b) ∧ ∀ b, F' b → F b ∨ w.heap.size ≤ b)

set_option maxRecDepth 100000 in
set_option maxHeartbeats 4000000 in
theorem rfind_any (r : Nat) (ram : Sp) (m : Mm) (F : Nat → Prop) (ps : List (Nat × Nat)) (A : Option Addr) (c k at_ : Nat) (hk : k < 4503599627370496) (hat : at_ = 4096 * k) (hps : ps.length ≤ 1000000) (made : Bool) (w : World) (hP : RM w r ram m F ps A c) :
    Calls Tryz.prog 72 #[.pointer (some ⟨r, 0, none⟩), .int .u64 (at_ : Int), .bool made] w (FindRet w r ram m F ps k made) := by
  have c2 : w.cell? ⟨r, 2, none⟩ = some (.slice A ps.length c) := (hP.blk.cell 2).trans rfl
  have HAT := Lib.hid hat
  clear hat
  go_enter Tryz.func72, Tryz.ntmps72
  go_wp2
  go_loopw [13] (fun v wr => ∃ j : Nat, j ≤ ps.length ∧ v = .int .i64 j ∧ wr = w ∧ Hid (∀ x ∈ ps.take j, x.1 ≠ k)) (fun v _ => ps.length - (intOf v).toNat)
  case atStart => exact ⟨0, Nat.zero_le _, rfl, rfl, Lib.hid (by simp)⟩
  case round =>
    obtain ⟨j, hj, rfl, rfl, hall⟩ := hrel
    by_cases hlt : j < ps.length
    · obtain ⟨x, hx⟩ : ∃ x, ps[j]? = some x := ⟨_, List.getElem?_eq_getElem hlt⟩
      have hxm := List.mem_of_getElem? hx
      have hxk := (hP.rows x hxm).2.2
      obtain ⟨ba, bo, rfl, _, _⟩ := (Rd.of_own hP.own).range (by omega)
      have hrng := rd_page (Rd.of_own hP.own) j x hx
      have ca : wr.cell? ⟨ba, bo + j * 2, none⟩ = some (.int .u64 ((4096 * x.1 : Nat) : Int)) := hrng 0 _ rfl
      obtain ⟨y, hy⟩ : ∃ y, y = 4096 * x.1 := ⟨_, rfl⟩
      rw [← hy] at ca
      have HX := Lib.hid hx
      by_cases he : x.1 = k
      · have hyk : ((y : Int) == (at_ : Int)) = true := by have := HAT.out; simp; omega
        clear hrng hx hxm hy hxk
        go_wp2
        go_ret
        exact .inl ⟨j, x, rfl, HX.out, he, rfl⟩
      · have hyk : ((y : Int) == (at_ : Int)) = false := by have := HAT.out; simp; omega
        have hnext : Hid (∀ z ∈ ps.take (j + 1), z.1 ≠ k) := Lib.hid (fun z hz => by
          rw [List.take_add_one, HX.out] at hz
          simp only [Option.toList_some, List.mem_append, List.mem_singleton] at hz
          rcases hz with hz | rfl
          · exact hall.out z hz
          · exact he)
        clear hrng hx hxm hy hxk he
        go_wp2
        go_roundw
        case rel => exact ⟨j + 1, by omega, by go_num, by first | rfl | trivial, hnext⟩
        case measure => simp [intOf]; omega
    · obtain ⟨n, hn⟩ : ∃ n, n = ps.length := ⟨_, rfl⟩
      have hall2 : ∀ x ∈ ps, x.1 ≠ k := fun x hx => hall.out x (by rw [List.take_of_length_le (by omega)]; exact hx)
      clear hall hn
      cases made with
      | false =>
        go_wp2
        go_ret
        exact .inr (.inl ⟨hall2, by first | rfl | trivial | simp, by first | rfl | trivial, by first | rfl | trivial⟩)
      | true =>
        go_wp2
        obtain ⟨w, hw⟩ : ∃ w, w = wr := ⟨_, rfl⟩
        subst hw
        refine Flow.wp_region_flow (0) [(9, fun b => (Value.slice A ps.length c).ownBlock = some b), (12, fun b => b = r)] [(4, fun W => Blk W r 128 (#[.int .u64 (ram.base : Int), .int .u64 (ram.size : Int), .slice A ps.length c])), (9, fun W => W.ownsRow 0 139 2 (.slice A ps.length c) ps.length (pcells ps)), (12, fun W => Blk W r 128 (#[.int .u64 (ram.base : Int), .int .u64 (ram.size : Int), .slice A ps.length c])), (13, fun W => Chg F w W), (13, fun W => ∀ x ∈ ps, W.heap[x.2]? = w.heap[x.2]? ∧ x.2 < W.heap.size)] (by kernel_rfl) (by kernel_rfl) (Nat.zero_le _) (Flow.nz_cons (fun _ _ => Nat.zero_le _) (Flow.nz_cons (fun _ _ => Nat.zero_le _) Flow.nz_nil)) (Flow.facts_cons (hP.blk.drew) (Flow.kept_blk id) (Flow.fz_cons (Flow.no_follow (by kernel_rfl)) (Flow.fz_cons (Flow.no_follow (by kernel_rfl)) Flow.fz_nil)) (Flow.facts_cons (hP.own.drew) (Flow.kept_own (fun _ _ => id)) (Flow.fz_cons (Flow.no_follow (by kernel_rfl)) (Flow.fz_cons (Flow.no_follow (by kernel_rfl)) Flow.fz_nil)) (Flow.facts_cons (hP.blk.drew) (Flow.kept_blk id) (Flow.fz_cons (fun _ => Flow.kept_blk (fun e => hP.own_r e rfl)) (Flow.fz_cons (Flow.no_follow (by kernel_rfl)) Flow.fz_nil)) (Flow.facts_cons ((Chg.refl F w).drew) (fun _ _ c h => h.trans (c.mono (fun _ h => h.elim))) (Flow.fz_cons (fun _ => fun _ _ c h => h.trans (c.mono (fun b hb => hP.ownF b hb))) (Flow.fz_cons (fun _ => fun _ _ c h => h.trans (c.mono (fun b hb => hb ▸ hP.fr))) Flow.fz_nil)) (Flow.facts_cons (fun x hx => ⟨rfl, (hP.rows x hx).1.lt⟩) (fun _ _ c h x hx => ⟨(c.block _ (h x hx).2 id).trans (h x hx).1, Nat.lt_of_lt_of_le (h x hx).2 c.size⟩) (Flow.fz_cons (fun _ => fun _ _ c h x hx => ⟨(c.block _ (h x hx).2 (fun e => hP.own_g e hx rfl)).trans (h x hx).1, Nat.lt_of_lt_of_le (h x hx).2 c.size⟩) (Flow.fz_cons (fun _ => fun _ _ c h x hx => ⟨(c.block _ (h x hx).2 (fun e => hP.g_r hx e)).trans (h x hx).1, Nat.lt_of_lt_of_le (h x hx).2 c.size⟩) Flow.fz_nil)) Flow.facts_nil))))) ?_
        refine Flow.pass_old (X := .pointer (some ⟨r, 0, none⟩)) 0 (Flow.met_none rfl) (.inl rfl) (by kernel_rfl) (by kernel_rfl) rfl ?_
        refine Flow.pass_old (X := .pointer (some ⟨r, 0, none⟩)) 0 (Flow.met_none rfl) (.inl rfl) (by kernel_rfl) (by kernel_rfl) rfl ?_
        refine Flow.pass_val (.pointer (some ⟨r, 0, none⟩)) (Flow.met_none rfl) (fun a W hH => ?_) ?_
        · have e0 := Flow.see_new 31 1 hH.sees (by kernel_rfl) (by kernel_rfl) rfl rfl
          go_simp; first | done | rfl
        refine Flow.pass_val (.pointer (some ⟨r, 2, none⟩)) (Flow.met_none rfl) (fun a W hH => ?_) ?_
        · have e0 := Flow.see_new 32 2 hH.sees (by kernel_rfl) (by kernel_rfl) rfl rfl
          go_simp; first | done | rfl
        refine Flow.pass_val (.slice A ps.length c) (Flow.met_none rfl) (fun a W hH => ?_) ?_
        · have e0 := Flow.see_new 33 3 hH.sees (by kernel_rfl) (by kernel_rfl) rfl rfl
          have fa0 : (fun W => Blk W r 128 (#[.int .u64 (ram.base : Int), .int .u64 (ram.size : Int), .slice A ps.length c])) W := hH.fact _ (List.mem_of_getElem? (i := 0) rfl) rfl
          have cc : World.cell? W ⟨r, 2, none⟩ = some (.slice A ps.length c) := (fa0.cell 2).trans rfl; go_simp; first | done | rfl
        refine Flow.pass_old (X := .int .u64 (at_ : Int)) 1 (Flow.met_none rfl) (.inl rfl) (by kernel_rfl) (by kernel_rfl) rfl ?_
        refine Flow.pass_linlist [9, 12] (fun v W => ∃ b, v = pgV b ∧ (w.heap.size ≤ b ∧ Blk W b 5 (bcells (List.replicate 4096 0)).toArray)) (Flow.kept_lin [9, 12] (fun _ _ _ c ⟨b, h1, h0, h2⟩ => ⟨b, h1, h0, h2.ext c.ext⟩) (Flow.lz_cons (fun _ => .inl rfl) (Flow.lz_cons (fun _ => .inl rfl) Flow.lz_nil))) (Flow.met_none rfl) (fun a W hH => ?_) ?_
        · refine wpList_makeN W el8m rfl _ _ rfl .i64 .i64 _ _ 4096 4096 rfl rfl rfl rfl (by omega) (by omega) (by omega) ?_
          intro w1 hb1 hs1 hB1
          rw [made_zero] at hb1
          exact Flow.qq_nil ⟨_, rfl, Chg.of_ext hB1, W.heap.size, rfl, hH.below.size, hb1⟩
        refine Flow.pass_lin [9, 12] (fun v W => ∃ b, v = .agg #[.int .u64 (at_ : Int), pgV b] ∧ (w.heap.size ≤ b ∧ Blk W b 5 (bcells (List.replicate 4096 0)).toArray)) (Flow.kept_lin [9, 12] (fun _ _ _ c ⟨b, h1, h0, h2⟩ => ⟨b, h1, h0, h2.ext c.ext⟩) (Flow.lz_cons (fun _ => .inl rfl) (Flow.lz_cons (fun _ => .inl rfl) Flow.lz_nil))) (Flow.met_none rfl) (fun a W hH => ?_) ?_
        · have e0 := Flow.see_new 35 5 hH.sees (by kernel_rfl) (by kernel_rfl) rfl rfl
          obtain ⟨b1, e1, q1⟩ := Flow.see_lin 36 6 hH.sees (by kernel_rfl) (by kernel_rfl) rfl rfl (by kernel_rfl)
          refine Flow.wp_run (Flow.reg_build _ rfl (by simp [Act.eval, e0, e1]) (run_page W at_ b1)) ?_
          exact ⟨_, rfl, Chg.of_ext (Ext.refl W), b1, rfl, q1⟩
        refine Flow.pass_lin [9, 12] (fun v W => ∃ b b2, v = .slice (some ⟨b2, 0, none⟩) 1 1 ∧ (w.heap.size ≤ b ∧ Blk W b2 139 #[.int .u64 (at_ : Int), pgV b] ∧ Blk W b 5 (bcells (List.replicate 4096 0)).toArray)) (Flow.kept_lin [9, 12] (fun _ _ _ c ⟨b, b2, h1, h0, h2, h3⟩ => ⟨b, b2, h1, h0, h2.ext c.ext, h3.ext c.ext⟩) (Flow.lz_cons (fun _ => .inl rfl) (Flow.lz_cons (fun _ => .inl rfl) Flow.lz_nil))) (Flow.met_none rfl) (fun a W hH => ?_) ?_
        · obtain ⟨b0, e0, q0⟩ := Flow.see_lin 37 7 hH.sees (by kernel_rfl) (by kernel_rfl) rfl rfl (by kernel_rfl)
          refine Flow.wp_run (Flow.reg_buildSlice _ rfl (by simp [Act.eval, e0]) (run_pages1 W at_ b0)) ?_
          exact ⟨_, rfl, Chg.of_ext ((Ext.refl W).alloc _), b0, W.heap.size, rfl, q0.1, Blk.new _ _ _, q0.2.alloc _⟩
        refine Flow.pass_linlist [12] (fun v W => ∃ A1 c1 b, v = .slice A1 (ps.length + 1) c1 ∧ (W.ownsRow 0 139 2 (.slice A1 (ps.length + 1) c1) (ps.length + 1) (pcells ps ++ [.int .u64 (at_ : Int), pgV b]) ∧ (∀ x, (Value.slice A1 (ps.length + 1) c1).ownBlock = some x → (Value.slice A ps.length c).ownBlock = some x ∨ w.heap.size ≤ x) ∧ w.heap.size ≤ b ∧ Blk W b 5 (bcells (List.replicate 4096 0)).toArray)) (Flow.kept_lin [12] (fun _ _ _ c ⟨A1, c1, b, h1, h2, h3, h4, h5⟩ => ⟨A1, c1, b, h1, own_chg h2 c (fun _ _ => id), h3, h4, h5.chg c id⟩) (Flow.lz_cons (Flow.no_follow (by kernel_rfl)) (Flow.lz_cons (fun _ => .inl rfl) Flow.lz_nil))) (Flow.met_none rfl) (fun a W hH => ?_) ?_
        · have e0 := Flow.see_new 34 4 hH.sees (by kernel_rfl) (by kernel_rfl) rfl rfl
          obtain ⟨b1, bb1, e1, q1⟩ := Flow.see_lin 38 8 hH.sees (by kernel_rfl) (by kernel_rfl) rfl rfl (by kernel_rfl)
          have fa1 : (fun W => W.ownsRow 0 139 2 (.slice A ps.length c) ps.length (pcells ps)) W := hH.fact _ (List.mem_of_getElem? (i := 1) rfl) rfl
          refine wpList_app W elPg rfl _ _ rfl 0 A ps.length c _ (by simpa [Act.eval] using e0) fa1 W.heap.size (some ⟨bb1, 0, none⟩) 1 1 [.int .u64 (at_ : Int), pgV b1] (by simpa [Act.eval] using e1) (by have := q1.2.1.rd (size := 2) (n := 1) rfl; simpa using this) (by intro u hu; simp only [List.mem_cons, List.not_mem_nil, or_false] at hu; rcases hu with rfl | rfl <;> rfl) (by omega) (by omega) (Nat.zero_le _) ?_
          intro A1 c1 W2 hO2 hg hB hob
          refine Flow.qq_nil ⟨_, rfl, Chg.grown hg (fun b hb => hb), A1, c1, b1, rfl, hO2, fun x hx => ?_, q1.1, q1.2.2.grown hg (fun e => ?_)⟩
          · rcases hob with h4 | h4
            · left; rw [← h4]; exact hx
            · right; rw [hx] at h4; cases h4; exact hH.below.size
          · have h5 := (hP.own.lt b1 e.symm).2; have h6 := q1.1; omega
        refine Flow.pass_val (.pointer (some ⟨r, 0, none⟩)) (Flow.met_none rfl) (fun a W hH => ?_) ?_
        · have e0 := Flow.see_new 30 0 hH.sees (by kernel_rfl) (by kernel_rfl) rfl rfl
          go_simp; first | done | rfl
        refine Flow.pass_val (.pointer (some ⟨r, 2, none⟩)) (Flow.met_none rfl) (fun a W hH => ?_) ?_
        · have e0 := Flow.see_new 40 10 hH.sees (by kernel_rfl) (by kernel_rfl) rfl rfl
          go_simp; first | done | rfl
        refine Flow.pass_gen (fun _ W => ∃ A1 c1 b, Blk W r 128 #[.int .u64 (ram.base : Int), .int .u64 (ram.size : Int), .slice A1 (ps.length + 1) c1] ∧ (W.ownsRow 0 139 2 (.slice A1 (ps.length + 1) c1) (ps.length + 1) (pcells ps ++ [.int .u64 (at_ : Int), pgV b]) ∧ (∀ x, (Value.slice A1 (ps.length + 1) c1).ownBlock = some x → (Value.slice A ps.length c).ownBlock = some x ∨ w.heap.size ≤ x) ∧ w.heap.size ≤ b ∧ Blk W b 5 (bcells (List.replicate 4096 0)).toArray)) (Flow.kept_of (fun _ _ _ c ⟨A1, c1, b, h1, h2, h3, h4, h5⟩ => ⟨A1, c1, b, h1.chg c id, own_chg h2 c (fun _ _ => id), h3, h4, h5.chg c id⟩) (Flow.kz_cons (Flow.no_follow (by kernel_rfl)) (Flow.kz_cons (Flow.no_follow (by kernel_rfl)) Flow.kz_nil))) (Flow.met_none rfl) (fun a W hH => ?_) ?_
        · have e0 := Flow.see_new 41 11 hH.sees (by kernel_rfl) (by kernel_rfl) rfl rfl
          obtain ⟨AA1, cc1, b1, e1, q1⟩ := Flow.see_lin 39 9 hH.sees (by kernel_rfl) (by kernel_rfl) rfl rfl (by kernel_rfl)
          have fa2 : (fun W => Blk W r 128 (#[.int .u64 (ram.base : Int), .int .u64 (ram.size : Int), .slice A ps.length c])) W := hH.fact _ (List.mem_of_getElem? (i := 2) rfl) rfl
          refine wp_skip (reg_storeSlice rfl (by kernel_rfl) fa2 e0 e1 (by show 2 < 3; omega)) ?_
          obtain ⟨hO2, hob, hbn, hbz⟩ := q1
          refine ⟨_, rfl, Chg.grown (grown_setM W r 2 _) (by rintro k h; cases h; rfl), AA1, cc1, b1, ?_, own_chg hO2 (Chg.grown (grown_setM W r 2 _) (Z := fun b => b = r) (by rintro k h; cases h; rfl)) (fun b hb e => ?_), hob, hbn, hbz.far (by have := hP.blk.lt; show b1 ≠ r; omega) _⟩
          · exact fa2.set_ 2 _
          · have e2 : b = r := e; subst e2; rcases hob _ hb with h4 | h4; exact hP.own_r h4 rfl; have := hP.blk.lt; omega
        refine Flow.pass_end [none, none, none, none, none, none, none, none, none, none, none, none, none, none, none, none, none, none, none, none, none, none, none, none, none, none, none, none, none, none, some 30, some 31, some 32, some 33, some 34, some 35, some 36, some 37, some 38, some 39, some 40, some 41, none, none, none, none, none, none] (by kernel_rfl) ?_
        intro f gg w9 hB hfa hT hfg
        obtain ⟨A1, c1, b, hb9, hO9, hob9, hbn, hbz⟩ := hT 12 _ (by kernel_rfl) rfl
        have C9 : Chg F w w9 := hfa _ (List.mem_of_getElem? (i := 3) rfl) (Nat.le_refl _)
        have S9 : ∀ x ∈ ps, w9.heap[x.2]? = w.heap[x.2]? ∧ x.2 < w9.heap.size := hfa _ (List.mem_of_getElem? (i := 4) rfl) (Nat.le_refl _)
        rw [HAT.out] at hO9
        obtain ⟨F', hP9, hF1, hF2⟩ := hP.make hk hall2 C9 hb9 hO9 hob9 hbz hbn (fun x hx => (S9 x hx).1)
        have c9 : w9.cell? ⟨r, 2, none⟩ = some (.slice A1 (ps.length + 1) c1) := (hb9.cell 2).trans rfl
        simp only [Reg.sel]
        clear hT hfg hfa hB hO9 hob9 hbz hbn S9 hb9 c2
        go_wp2
        go_ret
        refine .inr (.inr ⟨hall2, by first | rfl | trivial, ?_, F', A1, c1, b, hP9, C9, hF1, hF2⟩)
        rfl
end Go.Proofs.YtipdmhppadapkaaGreatDoor
/-
  append(x, make([]byte, m)...): onto a row of the call's own, or onto nil.
-/
namespace Go.Proofs.YtipdmhppadapkaaGreatDoor
open Go.RowKit

theorem run_append_makeM {P : Program} (w : World) (base : Nat) (t tn ty e : TypeId) (i : TypeInfo) (z : Value) (k kn : IntKind) (ht : P.underlying t = some (.slice e)) (htn : P.underlying tn = some (.int kn)) (hi : P.info? e = some i) (hz : i.zero = some z)
    (hzs : z.cells.size = i.size) (hsz : 0 < i.size) (A : Option Addr) (n c : Nat) (xs : List Value) (hown : w.ownsRow base e i.size (.slice A n c) n xs) (hn : 0 < n)
    (m : Nat) (hm : 0 < m) (h1 : ∀ u ∈ (Builtin.zeroCells z.cells m).toList, u.oneCell' = true) (h63 : n + m ≤ maxLen) (hbytes : (n + m) * i.bytes ≤ 140737488355328) (hbase : base ≤ w.heap.size) :
    ∃ v' w', (Builtin.append_ #[t, tn] ty #[.slice A n c, .int k m]).run P w = .ok v' w' ∧ w'.ownsRow base e i.size v' (n + m) (xs ++ (Builtin.zeroCells z.cells m).toList) ∧ w.grownBy w' (Value.slice A n c).ownBlock := by
  have hsmall : n + m ≤ 9223372036854775807 := by simp only [maxLen] at h63; omega
  have hl : (Builtin.zeroCells z.cells m).toList.length = m * i.size := by rw [Array.length_toList, size_zeroCells, hzs]
  have hlen : (xs ++ (Builtin.zeroCells z.cells m).toList).length = (n + m) * i.size := by rw [List.length_append, hown.1, hl, Nat.add_mul]
  have hw : IntKind.i64.wrap (m : Int) = m := by rw [IntKind.wrap_i64]; omega
  have hneg : ¬ ((m : Int) < 0) := by omega
  have hm0 : m ≠ 0 := by omega
  have hs0 : i.size ≠ 0 := by omega
  have hns : ¬ (m * i.size = 0) := Nat.mul_ne_zero hm0 hs0
  have hb2 : m * i.bytes ≤ (n + m) * i.bytes := Nat.mul_le_mul_right _ (Nat.le_add_left _ _)
  have h48i : ¬ (281474976710656 < (m : Int) * (i.bytes : Int)) := by
    rw [← Int.natCast_mul]
    omega
  rcases hown.2 with ⟨e1, _⟩ | ⟨g, cap, cur, e1, hbg, hg, hnc, hcm, hcs, htake⟩
  · injection e1 with _ e1 _; omega
  · injection e1 with e1 _ e2
    subst e1 e2
    by_cases hroom : n + m ≤ c
    · have hfit : n * i.size + (Builtin.zeroCells z.cells m).toList.length ≤ cur.size := by rw [hl, hcs, ← Nat.add_mul]; exact Nat.mul_le_mul_right _ hroom
      have hst := run_storeCells_at P g (n * i.size) e (Builtin.zeroCells z.cells m).toList 0 cur w hg (by simpa using hfit) h1
      simp only [Nat.add_zero] at hst
      refine ⟨.slice (some ⟨g, 0, none⟩) (n + m) c, w.setRow g (cur.toList.take (n * i.size) ++ (Builtin.zeroCells z.cells m).toList ++ cur.toList.drop (n * i.size + (Builtin.zeroCells z.cells m).toList.length)).toArray, ?_, ⟨hlen, .inr ⟨g, c, _, rfl, hbg, setRow_heap w g cur _ e _ hg, hroom, hcm, ?_, ?_⟩⟩, ⟨rfl, rfl, rfl, by simp, fun k _ hk => setRow_other w g k _ (fun e => hk (by simp [Value.ownBlock, e]))⟩⟩
      · simp [Builtin.append_, run_underlying ht, run_underlying htn, sizeOf, typeInfo, zeroValue, hi, hz, asInt, asIntOf, hw, hneg, hns, h48i, hroom, Addr.add_lit, hst]
      · simp only [List.size_toArray, List.length_append, List.length_take, List.length_drop, Array.length_toList] at *
        omega
      · rw [htake, ← hlen]
        exact List.take_left
    · have holds : ∀ j u, xs[j]? = some u → w.cell? ((⟨g, 0, none⟩ : Addr).add j) = some u := hown.cells (g := g) rfl
      have hf := growslice_fits (show c < n + m by omega) hbytes
      have h63' : ¬ (9223372036854775807 < ((n : Int) + (m : Int))) := by omega
      have h48' : ¬ (281474976710656 < Builtin.nextslicecap (n + m) c * i.bytes) := by omega
      have hfo := run_firstCells_some (P := P) w.drew i.size n ⟨g, 0, none⟩ n c xs hown.1 (by simpa using holds)
      have hge := grownCap_ge w (n + m) c e
      have hcm2 : grownCap w (n + m) c e ≤ maxLen := grownCap_le_maxLen w (n + m) c e h63
      refine ⟨.slice (some ⟨w.heap.size, 0, none⟩) (n + m) (grownCap w (n + m) c e), w.drew.alloc (.cells (xs.toArray ++ Builtin.zeroCells z.cells m ++ Builtin.zeroCells z.cells (grownCap w (n + m) c e - (n + m))) e), ?_,
        ⟨hlen, .inr ⟨w.heap.size, _, _, rfl, hbase, heap_alloc_new w.drew _, hge, hcm2, ?_, ?_⟩⟩, ⟨rfl, rfl, rfl, by simp, fun k hk _ => heap_alloc_old w.drew _ hk⟩⟩
      · simp [Builtin.append_, run_underlying ht, run_underlying htn, sizeOf, typeInfo, zeroValue, hi, hz, asInt, asIntOf, hw, hneg, hns, h48i, hroom, h63', h48', Question.forced, hfo, newRow, grownCap]
      · simp only [Array.size_append, List.size_toArray, size_zeroCells, hzs, hown.1, ← Nat.add_mul]
        congr 1
        omega
      · simp only [Array.toList_append, List.append_assoc]
        rw [← List.append_assoc, ← hlen]
        exact List.take_left

section
variable {P : Program} {ops : Array Oper} {rest : List Oper} {o : Oper} {a : Act} {Q : Exit → Act → World → Prop}
theorem wpList_appMakeM (w : World) {t e : TypeId} {z : Value} {bytes : Nat} (E : Elem P t e z 1 bytes) (hgd : o.guard = none) (s x : Operand) (tn : TypeId) (k kn : IntKind) (htn : P.underlying tn = some (.int kn))
    (ho : o.op = .call { callee := .builtin .append, args := #[s, x], argTypes := #[t, tn] })
    (base : Nat) (A : Option Addr) (n c : Nat) (xs : List Value) (hs : a.eval s = .slice A n c) (hown : w.ownsRow base e 1 (.slice A n c) n xs) (hn : 0 < n)
    (m : Nat) (hx : a.eval x = .int k (m : Int)) (hm : 0 < m) (h1 : ∀ u ∈ (Builtin.zeroCells z.cells m).toList, u.oneCell' = true)
    (h63 : n + m ≤ 9223372036854775807) (hbytes : (n + m) * bytes ≤ 140737488355328) (hbase : base ≤ w.heap.size)
    (h : ∀ A' c' w', w'.ownsRow base e 1 (.slice A' (n + m) c') (n + m) (xs ++ (Builtin.zeroCells z.cells m).toList) → w.grownBy w' (Value.slice A n c).ownBlock → Below base w w' →
      wpList P ops Q rest (a.put o.dst (.slice A' (n + m) c')) w') : wpList P ops Q (o :: rest) a w := by
  obtain ⟨i, hi, hz, h4, h5⟩ := E.info
  obtain ⟨v', w', hr, h2, h3⟩ := run_append_makeM (P := P) w base t tn o.type e i z k kn E.under htn hi hz (by rw [E.zs, h4]) (by omega) A n c xs (by rw [h4]; exact hown) hn m hm h1 (by simp only [maxLen]; omega) (by rw [h5]; exact hbytes) hbase
  rw [h4] at h2
  have hex : ∃ A' c', v' = .slice A' (n + m) c' := by
    rcases h2.2 with ⟨e1, e2⟩ | ⟨g, cap, cur, e1, _⟩
    · omega
    · exact ⟨_, _, e1⟩
  obtain ⟨A', c', rfl⟩ := hex
  exact Lib.wpList_append_run w hgd s x t tn ho _ _ hs hx _ _ hr (h A' c' w' h2 h3 ((Below.refl _ _).grown h3 hbase (fun k hk => (hown.lt k hk).1)))
end
theorem zeroCells_bytes (n : Nat) : (Builtin.zeroCells (Value.int .u8 0).cells n).toList = bcells (List.replicate n 0) := by
  have h := made_zero n
  have e : Builtin.zeroCells (Value.int .u8 0).cells n = madeCells (Value.int .u8 0).cells (n * 1) := by
    simp [Builtin.zeroCells, madeCells, Value.cells]
  rw [e, h]
section
variable {ops : Array Oper} {rest : List Oper} {o : Oper} {a : Act} {Q : Exit → Act → World → Prop}
/-- zeros behind bytes of the call's own, none of them yet where the slice is nil -/
theorem wpList_appZ (w : World) (hgd : o.guard = none) (s x : Operand) (tn : TypeId) (k kn : IntKind) (htn : Tryz.prog.underlying tn = some (.int kn))
    (ho : o.op = .call { callee := .builtin .append, args := #[s, x], argTypes := #[22, tn] })
    (base : Nat) (A : Option Addr) (n c : Nat) (xs : List UInt8) (hs : a.eval s = .slice A n c) (hown : w.ownsRow base 5 1 (.slice A n c) n (bcells xs)) (hnil : n = 0 → A = none ∧ c = 0)
    (m : Nat) (hx : a.eval x = .int k (m : Int)) (hm : 0 < m) (h63 : n + m ≤ 1000000000) (hbase : base ≤ w.heap.size)
    (h : ∀ A' c' w', w'.ownsRow base 5 1 (.slice A' (n + m) c') (n + m) (bcells (xs ++ List.replicate m 0)) → Below base w w' →
      wpList Tryz.prog ops Q rest (a.put o.dst (.slice A' (n + m) c')) w') : wpList Tryz.prog ops Q (o :: rest) a w := by
  by_cases h0 : n = 0
  · obtain ⟨rfl, rfl⟩ := hnil h0
    subst h0
    have hx0 : xs = [] := List.eq_nil_of_length_eq_zero (by have := hown.1; rw [bcells_length] at this; omega)
    subst hx0
    obtain ⟨i, hi, hz, h4, h5⟩ := el8m.info
    have hr := Lib.run_append_nil_zeros (P := Tryz.prog) w 22 tn o.type 5 i (.int .u8 0) k kn el8m.under htn hi hz m hm (by omega) (by omega) (by rw [h5]; omega)
    refine Lib.wpList_append_run w hgd s x _ tn ho _ _ hs hx _ _ hr ?_
    have hge := grownCap_ge w m 0 5
    have hcm2 : grownCap w m 0 5 ≤ maxLen := grownCap_le_maxLen w m 0 5 (by simp only [maxLen]; omega)
    have := h (some ⟨w.heap.size, 0, none⟩) (grownCap w m 0 5) (w.drew.alloc (.cells (Builtin.zeroCells (Value.int .u8 0).cells m ++ Builtin.zeroCells (Value.int .u8 0).cells (grownCap w m 0 5 - m)) 5)) ?_ (((Below.refl _ _).drew).alloc hbase _)
    · simpa using this
    · rw [List.nil_append, Nat.zero_add]
      refine ⟨by rw [bcells_length, List.length_replicate, Nat.mul_one], .inr ⟨w.heap.size, _, _, rfl, hbase, heap_alloc_new w.drew _, hge, hcm2, ?_, ?_⟩⟩
      · simp only [Array.size_append, size_zeroCells]
        rw [show (Value.int IntKind.u8 0).cells.size = 1 from rfl]; omega
      · rw [Array.toList_append, zeroCells_bytes, Nat.mul_one]
        exact List.take_left' (by rw [bcells_length, List.length_replicate])
  · refine wpList_appMakeM w el8m hgd s x tn k kn htn ho base A n c _ hs hown (by omega) m hx hm ?_ (by omega) (by omega) hbase ?_
    · rw [zeroCells_bytes]; exact bcells_one _
    · intro A' c' w' h1 _ h3
      rw [zeroCells_bytes, ← bcells_append] at h1
      exact h A' c' w' h1 h3
end
end Go.Proofs.YtipdmhppadapkaaGreatDoor
/-
  Walks: the reference's Read and Write.
-/
namespace Go.Proofs.YtipdmhppadapkaaGreatDoor
open Go.RowKit

theorem RM.cells {w : World} {r : Nat} {ram : Sp} {m : Mm} {F : Nat → Prop} {ps : List (Nat × Nat)} {A : Option Addr} {c : Nat} (h : RM w r ram m F ps A c) {j : Nat} {x : Nat × Nat} (hx : ps[j]? = some x) :
    ∃ pb po, A = some ⟨pb, po, none⟩ ∧ w.cell? ⟨pb, po + j * 2, none⟩ = some (.int .u64 ((4096 * x.1 : Nat) : Int)) ∧ w.cell? ⟨pb, po + j * 2 + 1, none⟩ = some (pgV x.2) := by
  obtain ⟨hlt, _⟩ := List.getElem?_eq_some_iff.1 hx
  obtain ⟨pb, po, rfl, _, _⟩ := (Rd.of_own h.own).range (by omega)
  have hrng := rd_page (Rd.of_own h.own) j x hx
  exact ⟨pb, po, rfl, hrng 0 _ rfl, hrng 1 _ rfl⟩
theorem page_part (m : Mm) (ad k q o s : Nat) (hx : ad + k = 4096 * q + o) (hs : o + s ≤ 4096) : readM m ad k ++ ((pageOf m q).drop o).take s = readM m ad (k + s) := by
  rw [readM_add, readM_page m (ad + k) q o s hx hs]

set_option maxRecDepth 100000 in
set_option maxHeartbeats 2000000 in
theorem rread_any (r : Nat) (ram : Sp) (okr : ram.ok) (hr40 : ram.base + ram.size ≤ 1099511627776) (m : Mm) (F : Nat → Prop) (N : Nat) (hN : N ≤ 1000000) (ad n : Nat) (had : ad < 18446744073709551616) (hn : n < 18446744073709551616) (w : World) (hM : RMem w r ram m F N) :
    Calls Tryz.prog 26 #[.pointer (some ⟨r, 0, none⟩), .int .u64 (ad : Int), .int .u64 (n : Int)] w (BErr w (readV ram m ad n) (askErr ram ad n)) := by
  obtain ⟨ps, A, c, hP, hps⟩ := hM
  go_enter Tryz.func26, Tryz.ntmps26
  go_wp2_with fail
  refine (rask_any r ram okr _ ad n had hn w hP.blk).mono ?_
  rintro e W1 ⟨rfl, B1⟩
  have hP1 := hP.below B1 (Nat.le_refl _)
  have hFlt : ∀ b, F b → b < w.heap.size := hP.flt
  obtain ⟨E, hE⟩ : ∃ E, E = askErr ram ad n := ⟨_, rfl⟩
  rw [← hE]
  by_cases h0 : E = 0
  · have hL : Hid (readV ram m ad n = readM m ad n) := Lib.hid (by rw [readV, ← hE, if_pos h0])
    have HE := Lib.hid hE
    obtain ⟨hn1, hin⟩ := ask_ok (by rw [← hE]; exact h0)
    have hin : n = 0 ∨ ad + n ≤ 1099511627776 := by omega
    have HIN := Lib.hid hin
    subst h0
    clear hE hP hin
    go_wp2
    go_loopw [9] (fun v wr => ∃ k : Nat, k ≤ n ∧ Below w.heap.size w wr ∧ RM wr r ram m F ps A c ∧ ∃ A' c', v = .slice A' k c' ∧ wr.ownsRow w.heap.size 5 1 (.slice A' k c') k (bcells (readM m ad k)) ∧ (k = 0 → A' = none ∧ c' = 0)) (fun v _ => match v with | .slice _ k _ => n - k | _ => 0)
    case atStart => exact ⟨0, Nat.zero_le _, B1, hP1, none, 0, rfl, World.ownsRow_nil _ _ _ _, fun _ => ⟨rfl, rfl⟩⟩
    case round =>
      obtain ⟨k, hk, hB, hP3, A', c', rfl, hO, hnil⟩ := hrel
      have hk1 : IntKind.u64.wrap (k : Int) = (k : Int) := IntWalk.u64_in _ (by omega)
      by_cases hlt : k < n
      · have hin2 : ad + n ≤ 1099511627776 := by have := HIN.out; omega
        obtain ⟨x, hx⟩ : ∃ x, x = ad + k := ⟨_, rfl⟩
        obtain ⟨q, hq⟩ : ∃ q, q = x / 4096 := ⟨_, rfl⟩
        obtain ⟨o, ho⟩ : ∃ o, o = x % 4096 := ⟨_, rfl⟩
        obtain ⟨y, hy⟩ : ∃ y, y = 4096 - o := ⟨_, rfl⟩
        obtain ⟨z, hz⟩ : ∃ z, z = n - k := ⟨_, rfl⟩
        obtain ⟨at_, hat⟩ : ∃ a, a = 4096 * q := ⟨_, rfl⟩
        have hq52 : q < 4503599627370496 := by omega
        have ho4 : o < 4096 := by omega
        have hxq : ad + k = 4096 * q + o := by omega
        have hx1 : IntKind.u64.wrap ((ad : Int) + (k : Int)) = (x : Int) := by rw [IntWalk.u64_in _ (by omega)]; omega
        have hx2 : (x : Int) % 4096 = (o : Int) := by omega
        have hx3 : (x : Int) / 4096 = (q : Int) := by omega
        have hx6 : IntKind.u64.wrap ((q : Int) * 4096) = (at_ : Int) := by rw [IntWalk.u64_in _ (by omega)]; omega
        have hy1 : (4096 : Int) - (o : Int) = (y : Int) := by omega
        have hz1 : (n : Int) - (k : Int) = (z : Int) := by omega
        have hcase : ∃ s : Nat, ((y ≤ z ∧ s = y) ∨ (z < y ∧ s = z)) ∧ 1 ≤ s ∧ k + s ≤ n ∧ o + s ≤ 4096 := by
          rcases Nat.lt_or_ge z y with h1 | h1
          · exact ⟨z, .inr ⟨h1, rfl⟩, by omega, by omega, by omega⟩
          · exact ⟨y, .inl ⟨h1, rfl⟩, by omega, by omega, by omega⟩
        obtain ⟨s, hcs, hs1, hkn, hos⟩ := hcase
        have hfind := rfind_any r ram m F ps A c q at_ hq52 hat (by omega) false wr hP3
        have c2 : wr.cell? ⟨r, 2, none⟩ = some (.slice A ps.length c) := (hP3.blk.cell 2).trans rfl
        have HXQ := Lib.hid hxq
        have HKN := Lib.hid hkn
        clear hx hq ho hy hz hin2 hxq hat
        rcases hcs with ⟨hyz, hsy⟩ | ⟨hyz, hsy⟩
        all_goals
          subst hsy
          rename_i s
          go_wp2_with fail
          refine hfind.mono ?_
          rintro e w5 (⟨j, x5, rfl, hj, hjq, rfl⟩ | ⟨hno, _, rfl, rfl⟩ | ⟨_, h5, _⟩)
          · obtain ⟨pb, po, hA, _, cb⟩ := hP3.cells hj
            have hrow := (hP3.rows x5 (List.mem_of_getElem? hj)).1
            rw [hjq] at hrow
            obtain ⟨g, hg⟩ : ∃ g, g = x5.2 := ⟨_, rfl⟩
            rw [← hg] at cb hrow
            have hrd := rd_partM (c := 4096) (by have := hrow.rd (size := 1) (n := 4096) (by rw [List.size_toArray, bcells_length, pageOf_length]); rwa [List.toList_toArray] at this) (Nat.le_refl _) o s (by omega)
            have hsl := fun W => run_slice_lhK (P := Tryz.prog) W 22 (by kernel_rfl) (by kernel_rfl) g 0 4096 4096 o s .u64 .u64 (o : Int) ((o : Int) + (s : Int)) rfl (by omega) (by omega)
            have ho6 : ¬ 4096 = o := by omega
            simp only [if_neg ho6, Nat.zero_add] at hrd hsl
            have hjl : j < ps.length := (List.getElem?_eq_some_iff.1 hj).1
            have HJ := Lib.hid hj
            have HA := Lib.hid hA
            rw [hA] at c2
            unfold pgV at cb
            clear hfind hj hA hg hjq hrow
            go_wp2_with (at_builtin; refine wpList_app w5 el8m rfl _ _ rfl w.heap.size A' k c' _ rfl hO w5.heap.size (some ⟨g, o, none⟩) s (4096 - o) _ rfl hrd (bcells_one _) (by omega) (by omega) hB.size ?_; intro A1 c1 w6 hO6 hg6 hB6 _)
            have B6 := hB.trans hB6
            have hP6 : RM w6 r ram m F ps A c := hP3.keep hB6.size (fun b hF => hB6.block b (hFlt b hF))
            rw [← bcells_append, page_part m ad k q o s HXQ.out hos] at hO6
            go_roundw
            case rel => exact ⟨k + s, hkn, B6, hP6, A1, c1, rfl, hO6, fun h => by omega⟩
            case measure => show n - (k + s) < n - k; omega
          · have hzz : Hid (∀ i, i < s → m (ad + k + i) = 0) := Lib.hid (fun i hi => by rw [HXQ.out, Nat.add_assoc]; exact hP3.zero q hno (o + i) (by omega))
            clear hfind hno
            go_wp2_with (at_builtin; refine wpList_appZ w5 rfl _ _ 24 .u64 .u64 Tryz.underlying24 rfl w.heap.size A' k c' _ rfl hO hnil s rfl (by omega) (by omega) hB.size ?_; intro A1 c1 w6 hO6 hB6)
            have B6 := hB.trans hB6
            have hP6 : RM w6 r ram m F ps A c := hP3.keep hB6.size (fun b hF => hB6.block b (hFlt b hF))
            rw [← readM_zero m (ad + k) s hzz.out, ← readM_add] at hO6
            go_roundw
            case rel => exact ⟨k + s, hkn, B6, hP6, A1, c1, rfl, hO6, fun h => by omega⟩
            case measure => show n - (k + s) < n - k; omega
          · cases h5
      · obtain rfl : k = n := by omega
        go_wp2
        go_ret2
        rw [hL.out, ← HE.out]
        unfold BErr
        rw [readM_length]
        exact ⟨A', c', rfl, Flow.own_le hO, Rd.of_own hO, hB⟩
  · have hL : Hid (readV ram m ad n = []) := Lib.hid (by rw [readV, ← hE, if_neg h0])
    have hne : (E != 0) = true := by simpa using h0
    have HE := Lib.hid hE
    clear hE h0 hP hP1
    go_wp2
    go_ret2
    rw [hL.out, ← HE.out]
    exact ⟨none, 0, rfl, Nat.le_refl _, Rd.nil _ _ _ _, B1⟩
end Go.Proofs.YtipdmhppadapkaaGreatDoor
/-
  Walk: the reference's Write.
-/
namespace Go.Proofs.YtipdmhppadapkaaGreatDoor
open Go.RowKit

def RAfter (w w' : World) (r : Nat) (ram : Sp) (m : Mm) (F : Nat → Prop) (N : Nat) : Prop := ∃ F', RMem w' r ram m F' N ∧ Chg F w w' ∧ (∀ b, F b → F' b) ∧ ∀ b, F' b → F b ∨ w.heap.size ≤ b
/-- a page that is there behind find -/
theorem find_made {w w' : World} {r : Nat} {ram : Sp} {m : Mm} {F : Nat → Prop} {ps : List (Nat × Nat)} {A : Option Addr} {c k : Nat} {e : Ending} (hP : RM w r ram m F ps A c) (h : FindRet w r ram m F ps k true e w') :
    ∃ j x ps2 A2 c2 F2, e = .returned (.int .i64 ((j : Nat) : Int)) ∧ ps2[j]? = some x ∧ x.1 = k ∧ RM w' r ram m F2 ps2 A2 c2 ∧ Chg F w w' ∧ (∀ b, F b → F2 b) ∧ (∀ b, F2 b → F b ∨ w.heap.size ≤ b) ∧ ps2.length ≤ ps.length + 1 := by
  rcases h with ⟨j, x, rfl, h1, h2, rfl⟩ | ⟨_, h1, _⟩ | ⟨_, _, rfl, F', A1, c1, g, h1, h2, h3, h4⟩
  · exact ⟨j, x, ps, A, c, F, rfl, h1, h2, hP, Chg.refl _ _, fun _ h => h, fun _ h => .inl h, Nat.le_succ _⟩
  · cases h1
  · exact ⟨ps.length, (k, g), ps ++ [(k, g)], A1, c1, F', rfl, by simp, rfl, h1, h2, h3, h4, by simp⟩

set_option maxRecDepth 100000 in
set_option maxHeartbeats 2000000 in
theorem rwrite_any (r : Nat) (ram : Sp) (okr : ram.ok) (hr40 : ram.base + ram.size ≤ 1099511627776) (m : Mm) (F : Nat → Prop) (N : Nat) (ad : Nat) (A : Option Addr) (n c : Nat) (l : List UInt8) (had : ad < 18446744073709551616) (hl : n = l.length) (hnc : n ≤ c) (hc : c ≤ 9223372036854775807)
    (hN : N + n ≤ 1000000) (w : World) (hR : Rd w w.heap.size 1 A n (bcells l)) (hfar : 0 < n → ∀ x, A = some x → ¬ F x.block) (hM : RMem w r ram m F N) :
    Calls Tryz.prog 60 #[.pointer (some ⟨r, 0, none⟩), .int .u64 (ad : Int), .slice A n c] w fun e w' => e = .returned (.int .i64 (askErr ram ad n)) ∧ RAfter w w' r ram (writeV ram m ad l) F (N + n) := by
  obtain ⟨ps, Ap, cp, hP, hps⟩ := hM
  have HL := Lib.hid hl
  clear hl
  have hcv : IntKind.u64.wrap (n : Int) = (n : Int) := IntWalk.u64_in _ (by omega)
  go_enter Tryz.func60, Tryz.ntmps60
  go_wp2_with fail
  refine (rask_any r ram okr _ ad n had (by omega) w hP.blk).mono ?_
  rintro e W1 ⟨rfl, B1⟩
  have hP1 := hP.below B1 (Nat.le_refl _)
  obtain ⟨E, hE⟩ : ∃ E, E = askErr ram ad n := ⟨_, rfl⟩
  rw [← hE]
  have C1 : Chg F w W1 := Chg.of_ext B1
  by_cases h0 : E = 0
  · have hV : Hid (writeV ram m ad l = writeM m ad l) := Lib.hid (by rw [writeV, ← HL.out, ← hE, if_pos h0])
    have HE := Lib.hid hE
    obtain ⟨hn1, hin⟩ := ask_ok (by rw [← hE]; exact h0)
    have hin : n = 0 ∨ ad + n ≤ 1099511627776 := by omega
    have HIN := Lib.hid hin
    have hsrc : Hid (0 < n → ∃ b off, A = some ⟨b, off, none⟩ ∧ b < w.heap.size ∧ ¬ F b ∧ w.rangeAt b off (bcells l)) := Lib.hid (fun h => by
      obtain ⟨b, off, rfl, h1, h2⟩ := hR.range (by omega)
      exact ⟨b, off, rfl, h1, hfar h _ rfl, h2⟩)
    subst h0
    clear hE hin hR hfar hcv hP
    go_wp2
    go_loopw [1, 2] (fun u v wr => ∃ j : Nat, j ≤ n ∧ u = .int .u64 ((ad + j : Nat) : Int) ∧ (∃ A', v = .slice A' (n - j) (c - j) ∧ (j < n → ∀ b off, A = some ⟨b, off, none⟩ → A' = some ⟨b, off + j, none⟩)) ∧
      ∃ F' qs A9 c9, qs.length ≤ N + j ∧ RM wr r ram (writeM m ad (l.take j)) F' qs A9 c9 ∧ Chg F w wr ∧ (∀ b, F b → F' b) ∧ ∀ b, F' b → F b ∨ w.heap.size ≤ b) (fun _ v _ => match v with | .slice _ k _ => k | _ => 0)
    case atStart => exact ⟨0, Nat.zero_le _, rfl, ⟨A, rfl, fun _ b off h => by rw [h]; rfl⟩, F, ps, Ap, cp, hps, by rw [List.take_zero, writeM_nil]; exact hP1, C1, fun _ h => h, fun _ h => .inl h⟩
    case round =>
      obtain ⟨j, hj, rfl, ⟨A', rfl, hA'⟩, F', qs, A9, c9, hq9, hP3, hC, hF1, hF2⟩ := hrel
      by_cases hlt : j < n
      · have had2 : ad + n ≤ 1099511627776 := by have := HIN.out; omega
        obtain ⟨b0, off, rfl, hb0, hFb0, hrng⟩ := hsrc.out (by omega)
        have hA2 := hA' hlt b0 off rfl
        subst hA2
        obtain ⟨x, hx⟩ : ∃ x, x = ad + j := ⟨_, rfl⟩
        rw [← hx]
        obtain ⟨q, hq⟩ : ∃ q, q = x / 4096 := ⟨_, rfl⟩
        obtain ⟨o, ho⟩ : ∃ o, o = x % 4096 := ⟨_, rfl⟩
        obtain ⟨at_, hat⟩ : ∃ a, a = 4096 * q := ⟨_, rfl⟩
        obtain ⟨s, hs⟩ : ∃ s, s = Nat.min (n - j) (4096 - o) := ⟨_, rfl⟩
        have hs' : s ≤ n - j ∧ s ≤ 4096 - o ∧ 1 ≤ s := by
          have : Nat.min (n - j) (4096 - o) = min (n - j) (4096 - o) := rfl
          rw [this] at hs; omega
        have hq52 : q < 4503599627370496 := by omega
        have ho4 : o < 4096 := by omega
        have hxq : x = 4096 * q + o := by omega
        have hx2 : (x : Int) % 4096 = (o : Int) := by omega
        have hx3 : (x : Int) / 4096 = (q : Int) := by omega
        have hx4 : IntKind.u64.wrap ((x : Int) + (s : Int)) = ((x + s : Nat) : Int) := by rw [IntWalk.u64_in _ (by omega)]; omega
        have hx5 : IntKind.u64.wrap (s : Int) = (s : Int) := IntWalk.u64_in _ (by omega)
        have hx6 : IntKind.u64.wrap ((q : Int) * 4096) = (at_ : Int) := by rw [IntWalk.u64_in _ (by omega)]; omega
        obtain ⟨A2, hA2⟩ : ∃ A2 : Addr, A2 = if c - j = s then ⟨b0, off + j, none⟩ else ⟨b0, off + j + s, none⟩ := ⟨_, rfl⟩
        have hsl := fun W => run_slice_loK (P := Tryz.prog) W 22 (by kernel_rfl) (by kernel_rfl) b0 (off + j) (n - j) (c - j) s .i64 (s : Int) rfl hs'.1
        rw [← hA2] at hsl
        have hA3 : Hid (j + s < n → A2 = ⟨b0, off + (j + s), none⟩) := Lib.hid (fun h => by rw [hA2, if_neg (by omega), Nat.add_assoc])
        have HX := Lib.hid hx
        have HXQ := Lib.hid hxq
        have HS := Lib.hid hs
        have hdr : n - j = (l.drop j).length := by rw [List.length_drop, ← HL.out]
        have HD := Lib.hid hdr
        have hb0r : b0 < wr.heap.size := Nat.lt_of_lt_of_le hb0 hC.size
        have hrr : wr.rangeAt b0 (off + j) (bcells (l.drop j)) := by
          have h1 := range_chg hrng (hC.block b0 hb0 hFb0)
          intro i v hv
          have e : (bcells (l.drop j))[i]? = (bcells l)[j + i]? := by simp [bcells]
          rw [e] at hv
          have := h1 (j + i) v hv
          rwa [← Nat.add_assoc] at this
        have hFb : ¬ F' b0 := fun h => by
          rcases hF2 b0 h with h1 | h1
          · exact hFb0 h1
          · omega
        have hend : ∀ y W W3 F2 ps2 A5 c5, y ∈ ps2 → y.1 = q → RM W r ram (writeM m ad (l.take j)) F2 ps2 A5 c5 → Chg F w W → W.grownBy W3 (some y.2) → (∀ b, F2 b → F b ∨ w.heap.size ≤ b) →
            Blk W3 y.2 5 (bcells ((pageOf (writeM m ad (l.take j)) q).take o ++ (l.drop j).take s ++ (pageOf (writeM m ad (l.take j)) q).drop (o + ((l.drop j).take s).length))).toArray →
            RM W3 r ram (writeM m ad (l.take (j + s))) F2 ps2 A5 c5 ∧ Chg F w W3 := by
          intro y W W3 F2 ps2 A5 c5 h0 h1 h2 h3 h4 h6 h7
          have e1 : ((l.drop j).take s).length = s := by rw [List.length_take, ← HD.out]; omega
          have h8 := h2.put (o := o) h0 (by rw [e1]; omega) h4 (by rw [h1]; exact h7)
          rw [h1, ← HXQ.out, HX.out] at h8
          have e2 : ad + j = ad + (l.take j).length := by rw [List.length_take, ← HL.out]; omega
          rw [e2, writeM_append, take_step] at h8
          have hFg := (h2.rows y h0).2.1
          refine ⟨h8, h4.os.trans h3.os, h4.tape.trans h3.tape, h4.output.trans h3.output, Nat.le_trans h3.size h4.size, fun k hk hnF => (h4.block k (Nat.lt_of_lt_of_le hk h3.size) (fun e => ?_)).trans (h3.block k hk hnF)⟩
          cases e
          rcases h6 _ hFg with h9 | h9
          · exact hnF h9
          · omega
        have hfind := rfind_any r ram (writeM m ad (l.take j)) F' qs A9 c9 q at_ hq52 hat (by omega) true wr hP3
        clear hrng hA' hA2 hx hq ho hs hxq hdr had2 hat
        go_wp2_with fail
        refine hfind.mono ?_
        rintro e w5 hFR
        obtain ⟨i, y, ps2, A5, c5, F2, rfl, hi, hyq, hP5, hC5, h51, h52, hlen⟩ := find_made hP3 hFR
        have hym := List.mem_of_getElem? hi
        obtain ⟨pb, po, hA5, _, cb⟩ := hP5.cells hi
        have hrow := (hP5.rows y hym).1
        rw [hyq] at hrow
        obtain ⟨g, hg⟩ : ∃ g, g = y.2 := ⟨_, rfl⟩
        rw [← hg] at cb hrow
        have c2 : w5.cell? ⟨r, 2, none⟩ = some (.slice A5 ps2.length c5) := (hP5.blk.cell 2).trans rfl
        rw [hA5] at c2
        have hil : i < ps2.length := (List.getElem?_eq_some_iff.1 hi).1
        have hF25 : ∀ b, F2 b → F b ∨ w.heap.size ≤ b := fun b hb => by
          rcases h52 b hb with h6 | h6
          · exact hF2 b h6
          · exact .inr (Nat.le_trans hC.size h6)
        have hCw5 : Chg F w w5 := ⟨hC5.os.trans hC.os, hC5.tape.trans hC.tape, hC5.output.trans hC.output, Nat.le_trans hC.size hC5.size, fun k hk hnF => (hC5.block k (Nat.lt_of_lt_of_le hk hC.size) (fun hFk => by
          rcases hF2 k hFk with h6 | h6
          · exact hnF h6
          · omega)).trans (hC.block k hk hnF)⟩
        have hrr5 := range_chg hrr (hC5.block b0 hb0r hFb)
        have hb05 : b0 < w5.heap.size := Nat.lt_of_lt_of_le hb0r hC5.size
        have hE2 := fun w6 h1 h2 => hend y w5 w6 F2 ps2 A5 c5 hym hyq hP5 hCw5 (by rw [← hg]; exact h1) hF25 (by rw [← hg]; exact h2)
        have HA5 := Lib.hid hA5
        unfold pgV at cb
        clear hfind hFR hend hi hym hA5 hg hyq hrr hC5 h52 hP3 hP5
        go_wp2_with ((with_reducible refine at_copy ?_); refine wpList_copyG w5 Tryz.underlying22 (by kernel_rfl) rfl _ _ rfl g o (4096 - o) (4096 - o) _ (l.drop j) hrow rfl b0 (off + j) (n - j) (c - j) rfl HD.out hrr5 hb05 s HS.out (by rw [pageOf_length]; omega) ?_; intro w6 hb6 hg6 hs6; obtain ⟨hP6, hC6⟩ := hE2 w6 hg6 hb6)
        go_roundw
        case rel => exact ⟨j + s, by omega, congrArg (Value.int .u64) (by have := HX.out; omega), ⟨some A2, by rw [Nat.sub_sub, Nat.sub_sub], fun hjs b off' h => by cases h; rw [hA3.out hjs]⟩, F2, ps2, A5, c5, by omega, hP6, hC6, fun b h => h51 b (hF1 b h), hF25⟩
        case measure => show n - j - s < n - j; omega
      · obtain rfl : j = n := by omega
        go_wp2
        go_ret
        refine ⟨ret_int HE.out, F', ?_, hC, hF1, hF2⟩
        rw [List.take_of_length_le (by rw [HL.out]; exact Nat.le_refl _)] at hP3
        rw [hV.out]
        exact ⟨qs, A9, c9, hP3, hq9⟩
  · have hV : Hid (writeV ram m ad l = m) := Lib.hid (by rw [writeV, ← HL.out, ← hE, if_neg h0])
    have hne : (E != 0) = true := by simpa using h0
    have HE := Lib.hid hE
    clear hE h0 hP hcv
    go_wp2
    go_ret
    refine ⟨ret_int HE.out, F, ?_, C1, fun _ h => h, fun _ h => .inl h⟩
    rw [hV.out]
    exact ⟨ps, Ap, cp, hP1, by omega⟩
end Go.Proofs.YtipdmhppadapkaaGreatDoor
/-
  Walk: the reference's NewMem.
-/
namespace Go.Proofs.YtipdmhppadapkaaGreatDoor
open Go.RowKit

theorem RMem.keep {w w' : World} {r : Nat} {ram : Sp} {m : Mm} {F : Nat → Prop} {N : Nat} (h : RMem w r ram m F N) (hs : w.heap.size ≤ w'.heap.size) (hb : ∀ b, F b → b < w.heap.size → w'.heap[b]? = w.heap[b]?) : RMem w' r ram m F N := by
  obtain ⟨ps, A, c, h1, h2⟩ := h
  exact ⟨ps, A, c, h1.keep hs fun b hF => hb b hF (h1.flt b hF), h2⟩
theorem RMem.more {w : World} {r : Nat} {ram : Sp} {m : Mm} {F : Nat → Prop} {N N' : Nat} (h : RMem w r ram m F N) (hN : N ≤ N') : RMem w r ram m F N' := by
  obtain ⟨ps, A, c, h1, h2⟩ := h
  exact ⟨ps, A, c, h1, Nat.le_trans h2 hN⟩
theorem RMem.flt {w : World} {r : Nat} {ram : Sp} {m : Mm} {F : Nat → Prop} {N : Nat} (h : RMem w r ram m F N) : ∀ b, F b → b < w.heap.size := by
  obtain ⟨ps, A, c, h1, h2⟩ := h
  exact h1.flt
theorem RMem.below {w w' : World} {r : Nat} {ram : Sp} {m : Mm} {F : Nat → Prop} {N : Nat} (h : RMem w r ram m F N) {n : Nat} (c : Below n w w') (hn : w.heap.size ≤ n) : RMem w' r ram m F N :=
  h.keep c.size fun b _ hlt => c.block b (Nat.lt_of_lt_of_le hlt hn)
theorem RAfter.from {w w1 w2 : World} {p : Nat} {ram : Sp} {m : Mm} {F : Nat → Prop} {N : Nat} (hB : Below w.heap.size w w1) (h : RAfter w1 w2 p ram m F N) : RAfter w w2 p ram m F N := by
  obtain ⟨F', h1, h2, h3, h4⟩ := h
  exact ⟨F', h1, ⟨h2.os.trans hB.os, h2.tape.trans hB.tape, h2.output.trans hB.output, Nat.le_trans hB.size h2.size, fun k hk hnF => (h2.block k (Nat.lt_of_lt_of_le hk hB.size) hnF).trans (hB.block k hk)⟩, h3, fun b hb => by
    rcases h4 b hb with h5 | h5
    · exact .inl h5
    · exact .inr (Nat.le_trans hB.size h5)⟩
theorem RAfter.same {w w1 : World} {p : Nat} {ram : Sp} {m : Mm} {F : Nat → Prop} {N : Nat} (hB : Below w.heap.size w w1) (h : RMem w p ram m F N) : RAfter w w1 p ram m F N :=
  ⟨F, h.below hB (Nat.le_refl _), Chg.of_ext hB, fun _ h => h, fun _ h => .inl h⟩
theorem RAfter.more {w w1 : World} {p : Nat} {ram : Sp} {m : Mm} {F : Nat → Prop} {N N' : Nat} (h : RAfter w w1 p ram m F N) (hN : N ≤ N') : RAfter w w1 p ram m F N' := by
  obtain ⟨F', h1, h2, h3, h4⟩ := h
  exact ⟨F', h1.more hN, h2, h3, h4⟩
theorem run_rmem (w : World) (ram : Sp) : (Instr.build 128 #[(0, .agg ram.cells)]).run Tryz.prog w = .ok (.agg #[.int .u64 (ram.base : Int), .int .u64 (ram.size : Int), .slice none 0 0]) w := by
  have hl : (flat [.agg ram.cells]) = [.int .u64 (ram.base : Int), .int .u64 (ram.size : Int)] := by simp [flat, Value.cells, Sp.cells]
  have := run_build_rows (P := Tryz.prog) w (t := 128) (z := #[.int .u64 0, .int .u64 0, .slice none 0 0]) #[(0, .agg ram.cells)] [.agg ram.cells] [(0, 2), (2, 1)]
    Tryz.underlying128 (by kernel_rfl) (by kernel_rfl) rfl (by simp [Rows1, Value.cells, Sp.cells]) (by rw [hl]; simp)
  rw [hl] at this
  exact this
theorem rm_new (w W : World) (ram : Sp) (p : Nat) (hb : Blk W p 128 #[.int .u64 (ram.base : Int), .int .u64 (ram.size : Int), .slice none 0 0]) (hp : w.heap.size ≤ p) :
    ∃ F, RMem W p ram zeroM F 0 ∧ ∀ b, F b → w.heap.size ≤ b :=
  ⟨fun b => b = p, ⟨[], none, 0, ⟨hb, World.ownsRow_nil _ _ _ _, fun b h => (by cases h), fun x hx => (by cases hx), fun _ _ _ _ => rfl, List.Pairwise.nil, rfl, by
    rintro b rfl
    exact hb.lt⟩, Nat.le_refl _⟩, by
    rintro b rfl
    exact hp⟩
def RNewRet (w : World) (ram : Sp) (J : List Ck) (N : Nat) (e : Ending) (w' : World) : Prop :=
  Below w.heap.size w w' ∧ ((newErr ram J ≠ 0 ∧ e = .returned (.tuple #[.pointer none, .int .i64 (newErr ram J)])) ∨
    (newErr ram J = 0 ∧ ∃ p F, e = .returned (.tuple #[.pointer (some ⟨p, 0, none⟩), .int .i64 0]) ∧ RMem w' p ram (newM ram J) F N ∧ ∀ b, F b → w.heap.size ≤ b))

set_option maxRecDepth 100000 in
set_option maxHeartbeats 2000000 in
theorem rnew_any (ram : Sp) (okr : ram.ok) (A : Option Addr) (n c : Nat) (J : List Ck) (hJ : ∀ k ∈ J, k.l.length ≤ 5000) (hn10 : n ≤ 10) (w : World) (hR : Rd w w.heap.size 2 A n (ccells J)) (hok : ∀ k ∈ J, k.ok w w.heap.size) :
    Calls Tryz.prog 19 #[.agg ram.cells, .slice A n c] w (RNewRet w ram J (n * 5000)) := by
  have hb := Blk.new w 61 ram.cells
  have B1 : Below w.heap.size w (w.alloc (.cells ram.cells 61)) := (Below.refl _ _).alloc (Nat.le_refl _) _
  have hJn : n = J.length := by have := hR.len; rw [ccells_length] at this; omega
  have HJN := Lib.hid hJn
  have HJ := Lib.hid hJ
  have HOK := Lib.hid hok
  clear hJn hJ hok
  go_enter Tryz.func19, Tryz.ntmps19
  go_wp2_with ((with_reducible refine at_load 61 ?_); refine wpList_loadAllW _ rfl 61 _ rfl w.heap.size 61 ram.cells hb _ rfl Tryz.underlying61 rfl infSpan ?_)
  generalize w.alloc (.cells ram.cells 61) = W1 at *
  have hpg := rpages_any ram okr W1
  refine hpg.mono ?_
  rintro e W2 ⟨rfl, hB2⟩
  have hb2 := hb.below hB2 hb.lt
  have B2 := B1.trans (hB2.mono B1.size)
  clear hpg hb B1 hB2
  cases hp : ram.pages with
  | false =>
    have he : Hid (newErr ram J = 1) := Lib.hid (by rw [newErr, ramOk, hp]; rfl)
    clear hp
    go_wp2
    go_ret2
    exact ⟨B2, .inl ⟨by rw [he.out]; decide, by rw [he.out]; rfl⟩⟩
  | true =>
    go_wp2_with ((with_reducible refine at_load 61 ?_); refine wpList_loadAllW _ rfl 61 _ rfl w.heap.size 61 ram.cells hb2 _ rfl Tryz.underlying61 rfl infSpan ?_)
    refine (rlast_any ram okr W2).mono ?_
    rintro e W3 ⟨rfl, hB3⟩
    obtain ⟨L, hL⟩ : ∃ L, L = ram.last := ⟨_, rfl⟩
    rw [← hL]
    have hb3 := hb2.below hB3 hb2.lt
    have B3 := B2.trans (hB3.mono B2.size)
    clear hb2 B2 hB3
    by_cases hge : 1099511627776 ≤ L
    · have hd : decide ((1099511627776 : Int) ≤ (L : Int)) = true := decide_eq_true (by omega)
      have he : Hid (newErr ram J = 1) := Lib.hid (by rw [newErr, ramOk, hp, decide_eq_false (by omega)]; rfl)
      clear hge hp hL
      go_wp2
      go_ret2
      exact ⟨B3, .inl ⟨by rw [he.out]; decide, by rw [he.out]; rfl⟩⟩
    · have hd : decide ((1099511627776 : Int) ≤ (L : Int)) = false := decide_eq_false (by omega)
      have hrk : ramOk ram = true := by rw [ramOk, hp, decide_eq_true (by omega)]; rfl
      have hr40 := ramOk_40 hrk
      have he : Hid (newErr ram J = (fillM ram J zeroM).1) := Lib.hid (by rw [newErr, if_pos hrk])
      clear hge hp hL hrk
      go_wp2_with (first
        | ((with_reducible refine at_load 61 ?_); refine wpList_loadAllW _ rfl 61 _ rfl w.heap.size 61 ram.cells hb3 _ rfl Tryz.underlying61 rfl infSpan ?_)
        | ((with_reducible refine at_build 128 ?_); refine wpList_buildV _ rfl #[(0, .agg ram.cells)] rfl (by simp [Act.eval, Act.put]) (run_rmem _ ram) ?_))
      have hbp := Blk.new W3 128 #[.int .u64 (ram.base : Int), .int .u64 (ram.size : Int), .slice none 0 0]
      obtain ⟨F0, hP0, hF0⟩ := rm_new w _ ram W3.heap.size hbp B3.size
      have B4 := B3.alloc B3.size (.cells #[.int .u64 (ram.base : Int), .int .u64 (ram.size : Int), .slice none 0 0] 128)
      generalize W3.alloc (.cells #[.int .u64 (ram.base : Int), .int .u64 (ram.size : Int), .slice none 0 0] 128) = W4 at *
      generalize W3.heap.size = p at *
      clear hbp hb3 B3
      have hz := zeroCk
      go_loopw [23] (fun v wr => ∃ k : Nat, k ≤ n ∧ v = .int .i64 k ∧ Below w.heap.size w wr ∧ Hid ((fillM ram (J.take k) zeroM).1 = 0) ∧ ∃ F, RMem wr p ram (fillM ram (J.take k) zeroM).2 F (k * 5000) ∧ ∀ b, F b → w.heap.size ≤ b) (fun v _ => n - (intOf v).toNat)
      case atStart => exact ⟨0, Nat.zero_le _, rfl, B4, Lib.hid rfl, F0, hP0, hF0⟩
      case round =>
        obtain ⟨k, hk, rfl, hB, hf0, F, hP, hF⟩ := hrel
        by_cases hlt : k < n
        · obtain ⟨x, hx⟩ : ∃ x, J[k]? = some x := ⟨_, List.getElem?_eq_getElem (by rw [← HJN.out]; exact hlt)⟩
          have hxo := HOK.out x (List.mem_of_getElem? hx)
          have hxl := HJ.out x (List.mem_of_getElem? hx)
          have hxa := hxo.at_
          have hxn := hxo.len
          have HXN := Lib.hid hxn
          have hRx := hxo.rd
          have hxc := hxo.cap
          have hxn5 : x.n ≤ 5000 := by omega
          have hsn := fillM_snoc ram x (J.take k) zeroM hf0.out
          have htk : J.take (k + 1) = J.take k ++ [x] := by rw [List.take_add_one, hx]; rfl
          rw [← htk] at hsn
          have HSN := Lib.hid hsn
          have HBAD : Hid ((fillM ram (J.take (k + 1)) zeroM).1 ≠ 0 → newErr ram J = (fillM ram (J.take (k + 1)) zeroM).1) := Lib.hid (fun h => by
            have h1 := fillM_bad ram (J.take (k + 1)) (J.drop (k + 1)) zeroM h
            rw [List.take_append_drop] at h1
            rw [he.out, h1])
          obtain ⟨ba, bo, rfl, _, _⟩ := hR.range (by omega)
          have hrng := rd_chunk (hR.below hB) k x hx
          have hC := fun W F' h1 h2 h3 h4 => rwrite_any p ram okr hr40 (fillM ram (J.take k) zeroM).2 F' (k * 5000) x.at_ x.A x.n x.c x.l hxa HXN.out hxc.1 hxc.2 h1 W h2 h3 h4
          obtain ⟨M, hM⟩ : ∃ M, M = (fillM ram (J.take k) zeroM).2 := ⟨_, rfl⟩
          rw [← hM] at hP hC
          have HM := Lib.hid hM
          have hcz := Blk.new wr 64 #[.int .u64 0, .slice none 0 0]
          clear hxn hsn htk hM hx hxo
          go_wp2_with (first
            | ((with_reducible refine at_load 64 ?_); refine wpList_load_mid rfl 64 _ rfl ba (bo + k * 2) rfl x.cells _ hrng Tryz.underlying64 rfl infCk ?_)
            | ((with_reducible refine at_store 64 ?_); refine wpList_storeAll _ rfl 64 _ _ rfl wr.heap.size 64 _ x.cells.toArray hcz rfl rfl rfl infCk (by intro v hv; simp only [Ck.cells, List.mem_cons, List.not_mem_nil, or_false] at hv; rcases hv with rfl | rfl <;> rfl) ?_; intro w3 hb3 hg3 hs3; have cc0 : w3.cell? ⟨wr.heap.size, 0, none⟩ = some (.int .u64 (x.at_ : Int)) := (hb3.cell 0).trans rfl; have cc1 : w3.cell? ⟨wr.heap.size, 1, none⟩ = some (.slice x.A x.n x.c) := (hb3.cell 1).trans rfl))
          have hB3 := grown_below (hB.alloc hB.size (.cells #[.int .u64 0, .slice none 0 0] 64)) hg3 (by simp; have := hB.size; omega) hB.size
          have hP3 : RMem w3 p ram M F (k * 5000) := hP.keep (by rw [hs3]; simp) (fun b hb hlb => (hg3.block b (by simp; omega) (fun e => by cases e; exact Nat.lt_irrefl _ hlb)).trans (Below.heap_alloc wr _ b hlb))
          have hcall := hC w3 F (by omega) ((hRx.below hB3).more hB3.size) (fun h0 y hy hFy => by
            obtain ⟨b, off, e, h1, _⟩ := hRx.range (by omega)
            rw [hy] at e
            cases e
            exact absurd (hF _ hFy) (Nat.not_le.2 h1)) hP3
          clear hC hP hcz hg3 hs3 cc0 cc1 hb3 hRx hrng hB
          refine hcall.mono ?_
          rintro e w5 ⟨rfl, F5, hP5, hC5, h51, h52⟩
          have B5 := hB3.trans (hC5.below hF hB3.size)
          have hF5 : ∀ b, F5 b → w.heap.size ≤ b := fun b hb => by
            rcases h52 b hb with h6 | h6
            · exact hF b h6
            · exact Nat.le_trans hB3.size h6
          obtain ⟨E, hE⟩ : ∃ E, E = askErr ram x.at_ x.n := ⟨_, rfl⟩
          rw [← hE]
          clear hcall hB3 hP3 hC5 h51 h52
          by_cases h0 : E = 0
          · have hq : askErr ram x.at_ x.l.length = 0 := by rw [← HXN.out, ← hE]; exact h0
            have hV : Hid ((fillM ram (J.take (k + 1)) zeroM).1 = 0 ∧ (fillM ram (J.take (k + 1)) zeroM).2 = writeV ram M x.at_ x.l) := Lib.hid (by rw [HSN.out, if_pos hq, writeV, if_pos hq, HM.out]; exact ⟨rfl, rfl⟩)
            clear hE hq HBAD HSN
            subst h0
            go_wp2
            go_roundw
            case rel => exact ⟨k + 1, by omega, by go_num, B5, Lib.hid hV.out.1, F5, by rw [hV.out.2]; exact hP5.more (by omega), hF5⟩
            case measure => simp [intOf]; omega
          · have hq : ¬ askErr ram x.at_ x.l.length = 0 := by rw [← HXN.out, ← hE]; exact h0
            have hV : Hid (newErr ram J = E) := Lib.hid (by
              have h1 : (fillM ram (J.take (k + 1)) zeroM).1 = E := by rw [HSN.out, if_neg hq, ← HXN.out, ← hE]
              rw [HBAD.out (by rw [h1]; exact h0), h1])
            have H0 := Lib.hid h0
            have hne : (E != 0) = true := by simpa using h0
            clear hE hq HBAD HSN h0
            go_wp2
            go_ret2
            exact ⟨B5, .inl ⟨by rw [hV.out]; exact H0.out, by rw [hV.out]; rfl⟩⟩
        · obtain rfl : k = n := by omega
          have hJall : J.take k = J := List.take_of_length_le (by rw [HJN.out]; exact Nat.le_refl _)
          rw [hJall] at hP hf0
          go_wp2
          go_ret2
          exact ⟨hB, .inr ⟨by rw [he.out]; exact hf0.out, p, F, rfl, hP, hF⟩⟩
end Go.Proofs.YtipdmhppadapkaaGreatDoor
