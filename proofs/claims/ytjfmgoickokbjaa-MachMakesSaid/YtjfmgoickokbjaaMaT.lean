/-
  The reference's Mem in memory: a row of pages. Walks: its ask, its find.
-/
import Derived.Test.YtjfmgoickokbjaaMaS
namespace Go.Proofs.Ytjfmgoickokbjaa
open Go.RowKit

def pcell (x : Nat × Nat) : List Value := [.int .u64 ((4096 * x.1 : Nat) : Int), pgV x.2]
def pcells (ps : List (Nat × Nat)) : List Value := ps.flatMap pcell
theorem pcells_length (l : List (Nat × Nat)) : (pcells l).length = l.length * 2 := by
  induction l with
  | nil => rfl
  | cons s l ih => simp only [pcells, List.flatMap_cons, List.length_append] at *; rw [ih]; simp [pcell]; omega
theorem pcells_snoc (l : List (Nat × Nat)) (x : Nat × Nat) : pcells (l ++ [x]) = pcells l ++ pcell x := by simp [pcells]
theorem pcells_get : ∀ (l : List (Nat × Nat)) (k : Nat) (s : Nat × Nat), l[k]? = some s → ((pcells l).drop (k * 2)).take 2 = pcell s
  | [], k, s, h => by simp at h
  | x :: l, 0, s, h => by
    simp at h; subst h
    simp [pcells, pcell]
  | x :: l, k + 1, s, h => by
    have := pcells_get l k s (by simpa using h)
    simp only [pcells, List.flatMap_cons]
    rw [show (k + 1) * 2 = 2 + k * 2 by omega, ← List.drop_drop, List.drop_left' (by simp [pcell])]
    exact this
theorem rd_page {w : World} {B n : Nat} {b off : Nat} {l : List (Nat × Nat)} (h : Rd w B 2 (some ⟨b, off, none⟩) n (pcells l)) (k : Nat) (s : Nat × Nat) (hk : l[k]? = some s) : w.rangeAt b (off + k * 2) (pcell s) := by
  obtain ⟨hlt, _⟩ := List.getElem?_eq_some_iff.1 hk
  have hn : n = l.length := by have := h.len; rw [pcells_length] at this; omega
  obtain ⟨b', off', e, _, hr⟩ := h.range (by omega)
  cases e
  intro j v hv
  have hg := pcells_get l k s hk
  have hv2 : (pcells l)[k * 2 + j]? = some v := by
    have h1 : (((pcells l).drop (k * 2)).take 2)[j]? = some v := by rw [hg]; exact hv
    rw [List.getElem?_take] at h1
    split at h1
    · rwa [List.getElem?_drop] at h1
    · cases h1
  have := hr (k * 2 + j) v hv2
  rwa [← Nat.add_assoc] at this
theorem elPg : Elem Try.prog 93 100 (.agg #[.int .u64 0, .slice none 0 0]) 2 32 := Elem.of (by kernel_rfl) (by kernel_rfl) rfl (by omega)

/-- the reference's Mem at block r: its memory m, its blocks F, its pages ps -/
structure RM (w : World) (r : Nat) (ram : Sp) (m : Mm) (F : Nat → Prop) (ps : List (Nat × Nat)) (A : Option Addr) (c : Nat) : Prop where
  blk : Blk w r 95 #[.int .u64 (ram.base : Int), .int .u64 (ram.size : Int), .slice A ps.length c]
  own : w.ownsRow 0 100 2 (.slice A ps.length c) ps.length (pcells ps)
  ownF : ∀ b, (Value.slice A ps.length c).ownBlock = some b → F b
  rows : ∀ x ∈ ps, Blk w x.2 5 (bcells (pageOf m x.1)).toArray ∧ F x.2 ∧ x.1 < 4503599627370496
  zero : ∀ k, (∀ x ∈ ps, x.1 ≠ k) → ∀ i, i < 4096 → m (4096 * k + i) = 0
  dist : ps.Pairwise (fun x y => x.1 ≠ y.1 ∧ x.2 ≠ y.2)
  fr : F r
  flt : ∀ b, F b → b < w.heap.size
def RMem (w : World) (r : Nat) (ram : Sp) (m : Mm) (F : Nat → Prop) (N : Nat) : Prop := ∃ ps A c, RM w r ram m F ps A c ∧ ps.length ≤ N

namespace RM
variable {w w' : World} {r : Nat} {ram : Sp} {m : Mm} {F : Nat → Prop} {ps : List (Nat × Nat)} {A : Option Addr} {c : Nat}
theorem keep (h : RM w r ram m F ps A c) (hs : w.heap.size ≤ w'.heap.size) (hb : ∀ b, F b → w'.heap[b]? = w.heap[b]?) : RM w' r ram m F ps A c := by
  refine ⟨(hb r h.fr).trans h.blk, ⟨h.own.1, ?_⟩, h.ownF, fun x hx => ⟨(hb x.2 (h.rows x hx).2.1).trans (h.rows x hx).1, (h.rows x hx).2⟩, h.zero, h.dist, h.fr, fun b hF => Nat.lt_of_lt_of_le (h.flt b hF) hs⟩
  rcases h.own.2 with h2 | ⟨g, cap, cur, e, h3, h4, h5⟩
  · exact .inl h2
  · exact .inr ⟨g, cap, cur, e, h3, (hb g (h.ownF g (by rw [e]; rfl))).trans h4, h5⟩
theorem chg (h : RM w r ram m F ps A c) {Z : Nat → Prop} (k : Chg Z w w') (hZ : ∀ b, F b → ¬ Z b) : RM w' r ram m F ps A c :=
  h.keep k.size fun b hb => k.block b (h.flt b hb) (hZ b hb)
theorem below (h : RM w r ram m F ps A c) {n : Nat} (k : Below n w w') (hn : w.heap.size ≤ n) : RM w' r ram m F ps A c :=
  h.keep k.size fun b hb => k.block b (Nat.lt_of_lt_of_le (h.flt b hb) hn)
theorem own_r (h : RM w r ram m F ps A c) {b : Nat} (hb : (Value.slice A ps.length c).ownBlock = some b) : b ≠ r := own_ne h.own h.blk (by decide) hb
theorem own_g (h : RM w r ram m F ps A c) {b : Nat} (hb : (Value.slice A ps.length c).ownBlock = some b) {x : Nat × Nat} (hx : x ∈ ps) : b ≠ x.2 := own_ne h.own (h.rows x hx).1 (by decide) hb
theorem g_r (h : RM w r ram m F ps A c) {x : Nat × Nat} (hx : x ∈ ps) : x.2 ≠ r := by
  intro e
  have h1 := (h.rows x hx).1
  rw [e] at h1
  have h2 := h.blk
  unfold Blk at h1 h2
  rw [h1] at h2
  have := Option.some.inj h2
  injection this with h3 h4
  exact absurd h4 (by decide)
theorem uniq (h : RM w r ram m F ps A c) : ∀ {x y : Nat × Nat}, x ∈ ps → y ∈ ps → (x.1 = y.1 ∨ x.2 = y.2) → x = y := by
  have hd := h.dist
  clear h
  induction ps with
  | nil => intro x y hx; cases hx
  | cons z l ih =>
    obtain ⟨h1, h2⟩ := List.pairwise_cons.1 hd
    intro x y hx hy e
    rcases List.mem_cons.1 hx with rfl | hx' <;> rcases List.mem_cons.1 hy with rfl | hy'
    · rfl
    · rcases e with e | e
      · exact absurd e (h1 y hy').1
      · exact absurd e (h1 y hy').2
    · rcases e with e | e
      · exact absurd e.symm (h1 x hx').1
      · exact absurd e.symm (h1 x hx').2
    · exact ih h2 hx' hy' e
/-- a page is written -/
theorem put (h : RM w r ram m F ps A c) {x : Nat × Nat} {o : Nat} {l : List UInt8} (hx : x ∈ ps) (ho : o + l.length ≤ 4096) (hgr : w.grownBy w' (some x.2)) (hg : Blk w' x.2 5 (bcells ((pageOf m x.1).take o ++ l ++ (pageOf m x.1).drop (o + l.length))).toArray) :
    RM w' r ram (writeM m (4096 * x.1 + o) l) F ps A c := by
  have hb : ∀ b, b ≠ x.2 → b < w.heap.size → w'.heap[b]? = w.heap[b]? := fun b hb hl => hgr.block b hl (fun e => hb (Option.some.inj e))
  refine ⟨(hb r (h.g_r hx).symm h.blk.lt).trans h.blk, ⟨h.own.1, ?_⟩, h.ownF, fun y hy => ?_, fun k hk i hi => ?_, h.dist, h.fr, fun b hF => Nat.lt_of_lt_of_le (h.flt b hF) hgr.size⟩
  · rcases h.own.2 with h2 | ⟨g, cap, cur, e, h3, h4, h5⟩
    · exact .inl h2
    · exact .inr ⟨g, cap, cur, e, h3, (hb g (h.own_g (by rw [e]; rfl) hx) (Array.getElem?_eq_some_iff.1 h4).1).trans h4, h5⟩
  · obtain ⟨r1, r2, r3⟩ := h.rows y hy
    by_cases e : y.1 = x.1
    · obtain rfl := h.uniq hy hx (.inl e)
      exact ⟨by rw [pageOf_write m y.1 o l ho]; exact hg, r2, r3⟩
    · have hne : y.2 ≠ x.2 := fun e2 => e (by rw [h.uniq hy hx (.inr e2)])
      rw [pageOf_other m x.1 y.1 o l ho e]
      exact ⟨(hb y.2 hne r1.lt).trans r1, r2, r3⟩
  · have e := hk x hx
    rw [writeM_out]
    · exact h.zero k hk i hi
    · rcases Nat.lt_or_gt_of_ne e with h5 | h5 <;> omega
/-- a page more, of zeros -/
theorem make (h : RM w r ram m F ps A c) {k g : Nat} {A1 : Option Addr} {c1 : Nat} (hk : k < 4503599627370496) (hnone : ∀ x ∈ ps, x.1 ≠ k) (C : Chg F w w')
    (hb : Blk w' r 95 #[.int .u64 (ram.base : Int), .int .u64 (ram.size : Int), .slice A1 (ps.length + 1) c1])
    (ho : w'.ownsRow 0 100 2 (.slice A1 (ps.length + 1) c1) (ps.length + 1) (pcells ps ++ pcell (k, g))) (hob : ∀ b, (Value.slice A1 (ps.length + 1) c1).ownBlock = some b → (Value.slice A ps.length c).ownBlock = some b ∨ w.heap.size ≤ b)
    (hg : Blk w' g 5 (bcells (List.replicate 4096 0)).toArray) (hgn : w.heap.size ≤ g) (hsame : ∀ x ∈ ps, w'.heap[x.2]? = w.heap[x.2]?) :
    ∃ F', RM w' r ram m F' (ps ++ [(k, g)]) A1 c1 ∧ (∀ b, F b → F' b) ∧ ∀ b, F' b → F b ∨ w.heap.size ≤ b := by
  have e : (ps ++ [(k, g)]).length = ps.length + 1 := by simp
  refine ⟨fun b => F b ∨ b = g ∨ (Value.slice A1 (ps.length + 1) c1).ownBlock = some b, ⟨by rw [e]; exact hb, by rw [e, pcells_snoc]; exact ho, fun b hb => .inr (.inr (by rw [e] at hb; exact hb)), fun x hx => ?_, fun j hj i hi => ?_, ?_, .inl h.fr, ?_⟩, fun _ h => .inl h, ?_⟩
  · rcases List.mem_append.1 hx with hx | hx
    · obtain ⟨r1, r2, r3⟩ := h.rows x hx
      exact ⟨(hsame x hx).trans r1, .inl r2, r3⟩
    · obtain rfl := List.mem_singleton.1 hx
      exact ⟨by rw [pageOf_zero m k (h.zero k hnone)]; exact hg, .inr (.inl rfl), hk⟩
  · exact h.zero j (fun x hx => hj x (List.mem_append_left _ hx)) i hi
  · refine List.pairwise_append.2 ⟨h.dist, List.pairwise_singleton _ _, fun x hx y hy => ?_⟩
    obtain rfl := List.mem_singleton.1 hy
    exact ⟨hnone x hx, fun e2 => by have := h.flt _ (h.rows x hx).2.1; have e3 : x.2 = g := e2; omega⟩
  · rintro b (h1 | rfl | h1)
    · exact Nat.lt_of_lt_of_le (h.flt b h1) C.size
    · exact hg.lt
    · exact (ho.lt b h1).2
  · rintro b (h1 | rfl | h1)
    · exact .inl h1
    · exact .inr hgn
    · rcases hob b h1 with h2 | h2
      · exact .inl (h.ownF b h2)
      · exact .inr h2
end RM

set_option maxRecDepth 100000 in
set_option maxHeartbeats 1000000 in
theorem rask_any (r : Nat) (ram : Sp) (okr : ram.ok) (v : Value) (a n : Nat) (ha : a < 18446744073709551616) (hn : n < 18446744073709551616) (w : World) (hb : Blk w r 95 #[.int .u64 (ram.base : Int), .int .u64 (ram.size : Int), v]) :
    Calls Try.prog 46 #[.pointer (some ⟨r, 0, none⟩), .int .u64 (a : Int), .int .u64 (n : Int)] w fun e w' => e = .returned (.int .i64 (askErr ram a n)) ∧ Below w.heap.size w w' := by
  have hr := pm_ram hb
  by_cases h1 : 1048576 < n
  · have he : Hid (askErr ram a n = 2) := Lib.hid (by rw [askErr, if_pos h1])
    have hd : decide ((1048576 : Int) < (n : Int)) = true := decide_eq_true (by omega)
    clear h1 hb
    go_enter Try.func46, Try.ntmps46
    go_wp2
    go_ret
    exact ⟨ret_int he.out.symm, Below.refl _ _⟩
  · have hd : decide ((1048576 : Int) < (n : Int)) = false := decide_eq_false (by omega)
    by_cases h0 : n = 0
    · subst h0
      have he : Hid (askErr ram a 0 = 0) := Lib.hid (by rw [askErr, if_neg h1, if_neg (by omega)])
      clear h1 hb hd
      go_enter Try.func46, Try.ntmps46
      go_wp2
      go_ret
      exact ⟨ret_int he.out.symm, Below.refl _ _⟩
    · have hpos : 0 < n := by omega
      have he : Hid (askErr ram a n = if (Sp.mk a n).within ram then 0 else 90) := Lib.hid (by
        rw [askErr, if_neg h1]
        cases (Sp.mk a n).within ram
        · rw [if_pos ⟨by omega, rfl⟩]; rfl
        · rw [if_neg (by simp)]; rfl)
      have hw := rwithin_any ⟨a, n⟩ ram ⟨ha, hn⟩ okr w
      obtain ⟨q, hq⟩ : ∃ q, q = (Sp.mk a n).within ram := ⟨_, rfl⟩
      rw [← hq] at hw he
      clear h1 hb h0 hq
      have hd0 : decide ((0 : Int) < (n : Int)) = true := decide_eq_true (by omega)
      go_enter Try.func46, Try.ntmps46
      go_wp2_with (first
        | ((with_reducible refine at_load 24 ?_); refine wpList_load_midW rfl 24 _ rfl r 0 rfl ram.cells.toList _ hr Try.underlying24 rfl infSpan ?_)
        | ((with_reducible refine at_build 24 ?_); refine wpList_buildV _ rfl #[(0, .int .u64 (a : Int)), (1, .int .u64 (n : Int))] rfl (by simp [Act.eval]) (run_sp _ _ _) ?_))
      refine Calls.mono hw ?_
      rintro e w2 ⟨rfl, hB⟩
      clear hw hr
      cases q
      all_goals
        go_wp2
        go_ret
        exact ⟨ret_int he.out.symm, hB⟩
end Go.Proofs.Ytjfmgoickokbjaa
