/-
  Parts: WordD WordE WordF AdrsA AdrsB PrfG PrfH PrfI.
-/
import Derived.Test.YtipdmhppadapkaaGreatDoorBB
import Derived.Test.YtipdmhppadapkaaGreatDoorBA
import Derived.Test.YtipdmhppadapkaaGreatDoorBC
/-
  Walks: word.Hex, portreeveref01.Hex: both are the digits `digs`.
-/
namespace Go.Proofs.YtipdmhppadapkaaGreatDoor
open Go.RowKit

theorem addr_lit (g o k : Nat) : (⟨g, o, none⟩ : Addr).add k = ⟨g, o + k, none⟩ := by unfold Addr.add; split <;> simp_all
/-- so many digits has a number -/
structure HexLen (x J : Nat) : Prop where
  one : 1 ≤ J
  done : x / 16 ^ J = 0
  more : ∀ i, 1 ≤ i → i < J → x / 16 ^ i ≠ 0
attribute [local irreducible] Utf8.encode
end Go.Proofs.YtipdmhppadapkaaGreatDoor
/-
  Walk: portreevelaw01.awake; the statement WordHexes' walk.
-/
namespace Go.Proofs.YtipdmhppadapkaaGreatDoor
open Go.RowKit

theorem own_form {w : World} {base : Nat} {e : TypeId} {A : Option Addr} {n c : Nat} {xs : List Value} (h : w.ownsRow base e 1 (.slice A n c) n xs) (hn : 0 < n) :
    ∃ g, A = some ⟨g, 0, none⟩ ∧ base ≤ g ∧ g < w.heap.size ∧ (∀ j v, xs[j]? = some v → w.cell? ⟨g, j, none⟩ = some v) ∧ (∀ j, w.frozen? ⟨g, j, none⟩ = false) := by
  rcases h.2 with ⟨e1, h0⟩ | ⟨g, cap, cur, e1, hb, hh, _⟩
  · omega
  · injection e1 with e1 _ _
    subst e1
    refine ⟨g, rfl, hb, (Array.getElem?_eq_some_iff.1 hh).1, fun j v hv => ?_, fun j => frozen_of_row w g j cur e hh⟩
    have := h.cells (g := g) rfl j v hv
    rw [addr_lit] at this; simpa using this

theorem HexLen.ff : HexLen 255 2 :=
  ⟨by omega, by decide, fun i h1 h2 => by
    obtain rfl : i = 1 := by omega
    decide⟩
end Go.Proofs.YtipdmhppadapkaaGreatDoor
/-
  The walks of the statements WordReads, WordPuts, WordBack, WordCats.
-/
namespace Go.Proofs.YtipdmhppadapkaaGreatDoor
open Go.RowKit

theorem putAll_one (x n : Nat) (low : Bool) : putAll [x] n low = putNum x n low := by simp [putAll]

end Go.Proofs.YtipdmhppadapkaaGreatDoor
/-
  Walks: adrs.of, whole.adrs, Ots, Ltree, Tree, Masked.
-/
namespace Go.Proofs.YtipdmhppadapkaaGreatDoor
open Go.RowKit

structure Ad where
  layer : Nat
  tree : Nat
  kind : Nat
  a : Nat
  b : Nat
  c : Nat
  mask : Nat
  deriving DecidableEq
def Ad.cells (x : Ad) : Array Value := #[.int .u32 x.layer, .int .u64 x.tree, .int .u32 x.kind, .int .u32 x.a, .int .u32 x.b, .int .u32 x.c, .int .u32 x.mask]
structure Ad.ok (x : Ad) : Prop where
  layer : x.layer < 4294967296
  tree : x.tree < 18446744073709551616
  kind : x.kind < 4294967296
  a : x.a < 4294967296
  b : x.b < 4294967296
  c : x.c < 4294967296
  mask : x.mask < 4294967296

section
variable (l t k a b c m : Nat) (w : World)
theorem infAdrs : (Tryz.prog.info? 162).map (·.size) = some 7 := by kernel_rfl
set_option maxRecDepth 100000 in
set_option maxHeartbeats 400000 in
theorem aof_any : Calls Tryz.prog 181 #[.agg #[.int .u32 l, .int .u64 t, .int .u32 k, .int .u32 a, .int .u32 b, .int .u32 c, .int .u32 m]] w fun e w' => e = .returned (.agg #[.int .u32 l, .int .u64 t, .int .u32 k, .int .u32 a, .int .u32 b, .int .u32 c, .int .u32 m]) ∧ Below w.heap.size w w' := by
  go_enter Tryz.func181, Tryz.ntmps181
  go_wp2
  refine bodyPost_ret (v := .agg #[.int .u32 l, .int .u64 t, .int .u32 k, .int .u32 a, .int .u32 b, .int .u32 c, .int .u32 m]) (by simp [results, Tryz.results181, go_sem]) rfl ⟨rfl, ?_⟩
  exact ((Below.refl _ _).alloc (Nat.le_refl _) _).alloc (by simp) _
set_option maxRecDepth 100000 in
set_option maxHeartbeats 400000 in
theorem awhole_any : Calls Tryz.prog 150 #[.agg #[.int .u32 l, .int .u64 t, .int .u32 k, .int .u32 a, .int .u32 b, .int .u32 c, .int .u32 m]] w fun e w' => e = .returned (.agg #[.int .u32 l, .int .u64 t, .int .u32 k, .int .u32 a, .int .u32 b, .int .u32 c, .int .u32 m]) ∧ Below w.heap.size w w' := by
  go_enter Tryz.func150, Tryz.ntmps150
  go_wp2
  refine bodyPost_ret (v := .agg #[.int .u32 l, .int .u64 t, .int .u32 k, .int .u32 a, .int .u32 b, .int .u32 c, .int .u32 m]) (by simp [results, Tryz.results150, go_sem]) rfl ⟨rfl, ?_⟩
  exact ((Below.refl _ _).alloc (Nat.le_refl _) _).alloc (by simp) _
set_option maxRecDepth 100000 in
set_option maxHeartbeats 400000 in
theorem ots_any : Calls Tryz.prog 142 #[.int .u32 a, .int .u32 b, .int .u32 c] w fun e w' => e = .returned (.agg #[.int .u32 0, .int .u64 0, .int .u32 0, .int .u32 a, .int .u32 b, .int .u32 c, .int .u32 0]) ∧ Below w.heap.size w w' := by
  go_enter Tryz.func142, Tryz.ntmps142
  go_wp2_with (first
    | (go_at_call 150; refine (awhole_any 0 0 0 a b c 0 _).mono ?_; rintro e w1 ⟨rfl, hB⟩; have hb1 := (Blk.new w 162 #[.int .u32 0, .int .u64 0, .int .u32 0, .int .u32 0, .int .u32 0, .int .u32 0, .int .u32 0]).below hB (by simp))
    | (refine wpList_storeAll w1 rfl 162 _ _ rfl w.heap.size _ _ _ hb1 rfl rfl rfl infAdrs (by simp [Value.oneCell']) ?_; intro w2 hb2 hg2 hs2))
  refine bodyPost_ret (results_cell_row rfl _ _ w.heap.size _ _ _ _ rfl hb2 Tryz.underlying162 rfl infAdrs) rfl ⟨rfl, ?_⟩
  exact grown_below (((Below.refl _ _).alloc (Nat.le_refl _) _).trans (hB.mono (by simp))) hg2 (by have := hB.size; simp at this; omega) (Nat.le_refl _)
set_option maxRecDepth 100000 in
set_option maxHeartbeats 400000 in
theorem ltree_any : Calls Tryz.prog 125 #[.int .u32 a, .int .u32 b, .int .u32 c] w fun e w' => e = .returned (.agg #[.int .u32 0, .int .u64 0, .int .u32 1, .int .u32 a, .int .u32 b, .int .u32 c, .int .u32 0]) ∧ Below w.heap.size w w' := by
  go_enter Tryz.func125, Tryz.ntmps125
  go_wp2_with (first
    | (go_at_call 150; refine (awhole_any 0 0 1 a b c 0 _).mono ?_; rintro e w1 ⟨rfl, hB⟩; have hb1 := (Blk.new w 162 #[.int .u32 0, .int .u64 0, .int .u32 0, .int .u32 0, .int .u32 0, .int .u32 0, .int .u32 0]).below hB (by simp))
    | (refine wpList_storeAll w1 rfl 162 _ _ rfl w.heap.size _ _ _ hb1 rfl rfl rfl infAdrs (by simp [Value.oneCell']) ?_; intro w2 hb2 hg2 hs2))
  refine bodyPost_ret (results_cell_row rfl _ _ w.heap.size _ _ _ _ rfl hb2 Tryz.underlying162 rfl infAdrs) rfl ⟨rfl, ?_⟩
  exact grown_below (((Below.refl _ _).alloc (Nat.le_refl _) _).trans (hB.mono (by simp))) hg2 (by have := hB.size; simp at this; omega) (Nat.le_refl _)
set_option maxRecDepth 100000 in
set_option maxHeartbeats 400000 in
theorem tree_any : Calls Tryz.prog 122 #[.int .u32 b, .int .u32 c] w fun e w' => e = .returned (.agg #[.int .u32 0, .int .u64 0, .int .u32 2, .int .u32 0, .int .u32 b, .int .u32 c, .int .u32 0]) ∧ Below w.heap.size w w' := by
  go_enter Tryz.func122, Tryz.ntmps122
  go_wp2_with (first
    | (go_at_call 150; refine (awhole_any 0 0 2 0 b c 0 _).mono ?_; rintro e w1 ⟨rfl, hB⟩; have hb1 := (Blk.new w 162 #[.int .u32 0, .int .u64 0, .int .u32 0, .int .u32 0, .int .u32 0, .int .u32 0, .int .u32 0]).below hB (by simp))
    | (refine wpList_storeAll w1 rfl 162 _ _ rfl w.heap.size _ _ _ hb1 rfl rfl rfl infAdrs (by simp [Value.oneCell']) ?_; intro w2 hb2 hg2 hs2))
  refine bodyPost_ret (results_cell_row rfl _ _ w.heap.size _ _ _ _ rfl hb2 Tryz.underlying162 rfl infAdrs) rfl ⟨rfl, ?_⟩
  exact grown_below (((Below.refl _ _).alloc (Nat.le_refl _) _).trans (hB.mono (by simp))) hg2 (by have := hB.size; simp at this; omega) (Nat.le_refl _)
set_option maxRecDepth 100000 in
set_option maxHeartbeats 400000 in
theorem masked_any (q : Nat) : Calls Tryz.prog 147 #[.agg #[.int .u32 l, .int .u64 t, .int .u32 k, .int .u32 a, .int .u32 b, .int .u32 c, .int .u32 m], .int .u32 q] w fun e w' => e = .returned (.agg #[.int .u32 l, .int .u64 t, .int .u32 k, .int .u32 a, .int .u32 b, .int .u32 c, .int .u32 q]) ∧ Below w.heap.size w w' := by
  go_enter Tryz.func147, Tryz.ntmps147
  go_wp2
  refine bodyPost_ret (v := .agg #[.int .u32 l, .int .u64 t, .int .u32 k, .int .u32 a, .int .u32 b, .int .u32 c, .int .u32 q]) (by simp [results, Tryz.results147, go_sem]) rfl ⟨rfl, ?_⟩
  exact ((Below.refl _ _).alloc (Nat.le_refl _) _).alloc (by simp) _
end
end Go.Proofs.YtipdmhppadapkaaGreatDoor
/-
  Walks: adrs.Bytes, portreeveref04.Bytes: an address as bytes.
-/
namespace Go.Proofs.YtipdmhppadapkaaGreatDoor
open Go.RowKit

def adBytes (l t k a b c m : Nat) : List UInt8 := putNum l 4 false ++ putNum t 8 false ++ putNum k 4 false ++ putNum a 4 false ++ putNum b 4 false ++ putNum c 4 false ++ putNum m 4 false
theorem adBytes_length (l t k a b c m : Nat) : (adBytes l t k a b c m).length = 32 := by simp [adBytes, putNum_length]

section
variable (l t k a b c m : Nat) (w : World)
set_option maxRecDepth 100000 in
set_option maxHeartbeats 1000000 in
theorem abytes_any : Calls Tryz.prog 171 #[.agg #[.int .u32 l, .int .u64 t, .int .u32 k, .int .u32 a, .int .u32 b, .int .u32 c, .int .u32 m]] w fun e w' => e = .returned (.agg (bcells (adBytes l t k a b c m)).toArray) ∧ Below w.heap.size w w' := by
  go_enter Tryz.func171, Tryz.ntmps171
  go_wp2_with (go_at_call 181; refine (aof_any l t k a b c m _).mono ?_; rintro e w1 ⟨rfl, hB⟩)
  have hb2 := (Blk.new (w.alloc (.cells #[.int .u32 l, .int .u64 t, .int .u32 k, .int .u32 a, .int .u32 b, .int .u32 c, .int .u32 m] 162)) 39 (Array.replicate 32 (.int .u8 0))).below hB (by simp)
  rw [World.size_alloc] at hb2
  have hb3 := (Blk.new w1 226 #[.int .u32 l, .int .u64 t, .int .u32 k, .int .u32 a, .int .u32 b, .int .u32 c, .int .u32 m]).drew
  have B1 : Below w.heap.size w w1 := (((Below.refl _ _).alloc (Nat.le_refl _) _).alloc (by simp) _).trans (hB.mono (by simp; omega))
  have B2 := (B1.alloc B1.size (.cells #[.int .u32 l, .int .u64 t, .int .u32 k, .int .u32 a, .int .u32 b, .int .u32 c, .int .u32 m] 226)).drew
  clear hB
  refine Reg.wp_region_pass (by kernel_rfl) (by kernel_rfl) ?_
  apply Reg.pass_val (hm := (Reg.met_none rfl))
  · intro a w hE hS
    have e0 := Reg.see_old 3 hS (by kernel_rfl) (by kernel_rfl) rfl
    go_simp; first | done | rfl
  apply Reg.pass_val (hm := (Reg.met_none rfl))
  · intro a w hE hS
    have e0 := Reg.see_new 7 0 hS (by kernel_rfl) (by kernel_rfl) rfl rfl
    go_simp; first | done | rfl
  apply Reg.pass_val (hm := (Reg.met_none rfl))
  · intro a w hE hS
    have e0 := Reg.see_new 8 1 hS (by kernel_rfl) (by kernel_rfl) rfl rfl
    have c0 := (hb3.ext hE).cell 0
    go_simp; first | done | rfl
  apply Reg.pass_build (hm := (Reg.met_none rfl))
  · intro a w hE hS
    have e0 := Reg.see_new 9 2 hS (by kernel_rfl) (by kernel_rfl) rfl rfl
    go_simp; first | done | rfl | exact ⟨rfl, rfl⟩
  refine Reg.pass_step (Reg.bytesK (0 + 4 * 1) ([] ++ putNum l 4 false)) (Reg.stable_bytes _ _) (Reg.met_none rfl) (fun a w hE hS => ?_) ?_
  · obtain ⟨b0, e0, q0⟩ := Reg.see_kind 10 3 hS (by kernel_rfl) (by kernel_rfl) rfl rfl
    refine Reg.wp_call rfl Tryz.func120 rfl (by kernel_rfl) (by simp [Act.eval, e0]) (putBe32_any none 0 0 [] w (some ⟨b0, 0, none⟩) 1 1 [l] (Rd.nil _ _ _ _) (by omega) (q0.rd rfl) (by omega)) ?_
    rintro e w' ⟨A9, c9, rfl, hO, hB⟩
    rw [putAll_one] at hO
    exact ⟨_, rfl, _, rfl, hB, A9, c9, rfl, Rd.of_own hO⟩
  apply Reg.pass_val (hm := (Reg.met_none rfl))
  · intro a w hE hS
    have e0 := Reg.see_old 3 hS (by kernel_rfl) (by kernel_rfl) rfl
    go_simp; first | done | rfl
  apply Reg.pass_val (hm := (Reg.met_none rfl))
  · intro a w hE hS
    have e0 := Reg.see_new 12 5 hS (by kernel_rfl) (by kernel_rfl) rfl rfl
    go_simp; first | done | rfl
  apply Reg.pass_val (hm := (Reg.met_none rfl))
  · intro a w hE hS
    have e0 := Reg.see_new 13 6 hS (by kernel_rfl) (by kernel_rfl) rfl rfl
    have c0 := (hb3.ext hE).cell 1
    go_simp; first | done | rfl
  apply Reg.pass_build (hm := (Reg.met_none rfl))
  · intro a w hE hS
    have e0 := Reg.see_new 14 7 hS (by kernel_rfl) (by kernel_rfl) rfl rfl
    go_simp; first | done | rfl | exact ⟨rfl, rfl⟩
  refine Reg.pass_step (Reg.bytesK (0 + 4 * 1 + 8 * 1) ([] ++ putNum l 4 false ++ putNum t 8 false)) (Reg.stable_bytes _ _) (Reg.met_none rfl) (fun a w hE hS => ?_) ?_
  · obtain ⟨A0, c0, e0, q0⟩ := Reg.see_kind 11 4 hS (by kernel_rfl) (by kernel_rfl) rfl rfl
    obtain ⟨b1, e1, q1⟩ := Reg.see_kind 15 8 hS (by kernel_rfl) (by kernel_rfl) rfl rfl
    refine Reg.wp_call rfl Tryz.func154 rfl (by kernel_rfl) (by simp [Act.eval, e0, e1]) (putBe64_any A0 (0 + 4 * 1) c0 _ w (some ⟨b1, 0, none⟩) 1 1 [t] q0 (by omega) (q1.rd rfl) (by omega)) ?_
    rintro e w' ⟨A9, c9, rfl, hO, hB⟩
    rw [putAll_one] at hO
    exact ⟨_, rfl, _, rfl, hB, A9, c9, rfl, Rd.of_own hO⟩
  refine Reg.pass_copy 16 9 (Reg.met_none rfl) (.inr rfl) (by kernel_rfl) (by kernel_rfl) rfl rfl (by first | exact Reg.stable_eqs _ | exact Reg.stable_built _ _ _ | exact Reg.stable_bytes _ _) ?_
  refine Reg.pass_end [none, none, none, none, some 4, none, none, some 7, some 8, some 9, some 10, some 11, some 12, some 13, some 14, some 15, some 16, none, none, none, none, none, none, none, none, none, none, none, none, none, none, none, none] (by kernel_rfl) ?_
  intro f w9 hE hf
  obtain ⟨A4, c4, h4, r4⟩ : Reg.bytesK (0 + 4 * 1 + 8 * 1) ([] ++ putNum l 4 false ++ putNum t 8 false) (f 4) w9 := hf 4 10 _ (by kernel_rfl) rfl
  have B9 := B2.trans (hE.below B2.size)
  have b3 := hb3.ext hE
  have s9 := hE.size
  have b2 : Blk w9 (w.heap.size + 1) 39 (Array.replicate 32 (.int .u8 0)) := (hb2.alloc (.cells #[.int .u32 l, .int .u64 t, .int .u32 k, .int .u32 a, .int .u32 b, .int .u32 c, .int .u32 m] 226)).drew.ext hE
  have c0 := b3.cell 2
  have c1 := b3.cell 3
  have c2 := b3.cell 4
  have c3 := b3.cell 5
  have c5 := b3.cell 6
  clear hf hE B2 B1 hb3 hb2 b3
  simp only [Reg.sel, h4]
  clear h4
  go_wp2_with fail
  have Ba := B9.alloc B9.size (.cells #[.int .u32 k, .int .u32 a, .int .u32 b, .int .u32 c, .int .u32 m] 23)
  refine (putBe32_any A4 12 c4 ([] ++ putNum l 4 false ++ putNum t 8 false) _ (some ⟨w9.heap.size, 0, none⟩) 5 5 [k, a, b, c, m] (r4.alloc (Nat.le_refl _) _ |>.more (by simp)) (by omega) ((Blk.new w9 23 #[.int .u32 k, .int .u32 a, .int .u32 b, .int .u32 c, .int .u32 m]).rd rfl) (by omega)).mono ?_
  rintro e w10 ⟨A5, c5', rfl, hO, hB⟩
  have hL : [] ++ putNum l 4 false ++ putNum t 8 false ++ putAll [k, a, b, c, m] 4 false = adBytes l t k a b c m := by simp [putAll, adBytes]
  rw [hL] at hO
  obtain ⟨g, rfl, hg, hg2, hcell, _⟩ := own_form hO (by omega)
  have hr : w10.rangeAt g 0 (bcells (adBytes l t k a b c m)) := fun j v hv => by rw [Nat.zero_add]; exact hcell j v hv
  have b3 := (b2.alloc (.cells #[.int .u32 k, .int .u32 a, .int .u32 b, .int .u32 c, .int .u32 m] 23)).below hB (by have := b2.lt; simp; omega)
  have B10 := Ba.trans (hB.mono Ba.size)
  have HL : Hid ((bcells (adBytes l t k a b c m)).length = 32) := Lib.hid (by rw [bcells_length, adBytes_length])
  clear hO hcell hB Ba B9 b2 c0 c1 c2 c3 c5 r4 hL
  have harr := fun W => run_arrayAt (P := Tryz.prog) W Tryz.underlying39 (some ⟨g, 0, none⟩) 32 c5' (Nat.le_refl _)
  go_wp2_with (first
    | (refine wpList_load_mid rfl 39 _ rfl g 0 rfl (bcells (adBytes l t k a b c m)) _ hr Tryz.underlying39 rfl (by rw [HL.out]; exact infNode) ?_)
    | (refine wpList_storeAll w10 rfl 39 _ _ rfl (w.heap.size + 1) _ _ _ b3 rfl rfl (by simpa using HL.out) (by rw [List.size_toArray, HL.out]; exact infNode) (by simpa using bcells_one _) ?_; intro w11 hb11 hg11 hs11))
  refine bodyPost_ret (results_cell_row rfl _ _ (w.heap.size + 1) _ _ _ _ rfl hb11 Tryz.underlying39 rfl (by rw [List.size_toArray, HL.out]; exact infNode)) rfl ⟨rfl, ?_⟩
  exact grown_below B10 hg11 B10.size (by omega)

set_option maxRecDepth 100000 in
set_option maxHeartbeats 1000000 in
theorem rbytes_any (hl : l < 4294967296) (hk : k < 4294967296) (ha : a < 4294967296) (hb : b < 4294967296) (hc : c < 4294967296) (hm : m < 4294967296) :
    Calls Tryz.prog 155 #[.agg #[.int .u32 l, .int .u64 t, .int .u32 k, .int .u32 a, .int .u32 b, .int .u32 c, .int .u32 m]] w fun e w' => e = .returned (.agg (bcells (adBytes l t k a b c m)).toArray) ∧ Below w.heap.size w w' := by
  go_enter Tryz.func155, Tryz.ntmps155
  go_wp2_with fail
  refine (rput_any none 0 0 false [] _ l 4 (Rd.nil _ _ _ _) (by omega) (by omega)).mono ?_
  rintro e w1 ⟨A1, c1, rfl, hO, hB⟩
  have hb2 := (Blk.new (w.alloc (.cells #[.int .u32 l, .int .u64 t, .int .u32 k, .int .u32 a, .int .u32 b, .int .u32 c, .int .u32 m] 162)) 39 (Array.replicate 32 (.int .u8 0))).below hB (by simp)
  rw [World.size_alloc] at hb2
  have hb1 := ((Blk.new w 162 #[.int .u32 l, .int .u64 t, .int .u32 k, .int .u32 a, .int .u32 b, .int .u32 c, .int .u32 m]).alloc (.cells (Array.replicate 32 (.int .u8 0)) 39)).below hB (by simp; omega)
  have B1 : Below w.heap.size w w1 := (((Below.refl _ _).alloc (Nat.le_refl _) _).alloc (by simp) _).trans (hB.mono (by simp; omega))
  have r1 := Rd.of_own hO
  have k0 := hb1.cell 1
  clear hB hO
  go_wp2_with fail
  refine (rput_any A1 (0 + 4) c1 false _ w1 t 8 r1 (by omega) (by omega)).mono ?_
  rintro e w2 ⟨A2, c2, rfl, hO, hB⟩
  have hb1 := hb1.below hB hb1.lt
  have hb2 := hb2.below hB hb2.lt
  have B2 := B1.trans (hB.mono B1.size)
  have r2 := Rd.of_own hO
  have q2 := hb1.cell 2
  have q3 := hb1.cell 3
  have q4 := hb1.cell 4
  have q5 := hb1.cell 5
  have q6 := hb1.cell 6
  clear hB hO B1 r1 k0
  have hbn := Blk.new w2 23 #[.int .u32 k, .int .u32 a, .int .u32 b, .int .u32 c, .int .u32 m]
  have hb2 := hb2.alloc (.cells #[.int .u32 k, .int .u32 a, .int .u32 b, .int .u32 c, .int .u32 m] 23)
  have B3 := B2.alloc B2.size (.cells #[.int .u32 k, .int .u32 a, .int .u32 b, .int .u32 c, .int .u32 m] 23)
  have r3 := (r2.alloc (Nat.le_refl _) (.cells #[.int .u32 k, .int .u32 a, .int .u32 b, .int .u32 c, .int .u32 m] 23)).more (Below.alloc (Below.refl w2.heap.size w2) (Nat.le_refl _) (.cells #[.int .u32 k, .int .u32 a, .int .u32 b, .int .u32 c, .int .u32 m] 23)).size
  obtain ⟨ns, hns⟩ : ∃ ns : List Nat, ns = [k, a, b, c, m] := ⟨_, rfl⟩
  have hcell : ∀ j, j < 5 → (#[.int .u32 k, .int .u32 a, .int .u32 b, .int .u32 c, .int .u32 m] : Array Value)[j]? = some (.int .u32 (ns[j]?.getD 0 : Nat)) ∧ ns[j]?.getD 0 < 4294967296 := by
    intro j hj
    subst hns
    rcases (show j = 0 ∨ j = 1 ∨ j = 2 ∨ j = 3 ∨ j = 4 by omega) with rfl | rfl | rfl | rfl | rfl
    all_goals exact ⟨rfl, by assumption⟩
  have HNS := Lib.hid hns
  have HC := Lib.hid hcell
  have hlt1 := hb2.lt
  have hlt2 := hb1.lt
  have s2 := B2.size
  clear hns hcell
  go_wp2
  clear q2 q3 q4 q5 q6 hb1 r2 B2
  go_loopw [3, 26] (fun o i wr => ∃ j : Nat, j ≤ 5 ∧ i = .int .i64 j ∧ ∃ A' c', o = .slice A' (12 + 4 * j) c' ∧ Rd wr wr.heap.size 1 A' (12 + 4 * j) (bcells ([] ++ putNum l 4 false ++ putNum t 8 false ++ putAll (ns.take j) 4 false)) ∧
      Blk wr w2.heap.size 23 #[.int .u32 k, .int .u32 a, .int .u32 b, .int .u32 c, .int .u32 m] ∧ Blk wr (w.heap.size + 1) 39 (Array.replicate 32 (.int .u8 0)) ∧ Below w.heap.size w wr ∧ w2.heap.size < wr.heap.size) (fun _ i _ => 5 - (intOf i).toNat)
  case atStart => exact ⟨0, Nat.zero_le _, rfl, A2, c2, rfl, by simpa [putAll] using r3, hbn, hb2, B3, by simp⟩
  case round =>
    obtain ⟨j, hj, rfl, A', c', rfl, hR, hN, hZ, hBr, hsr⟩ := hrel
    by_cases hlt : j < 5
    · have c1 : wr.cell? ⟨w2.heap.size, j, none⟩ = some (.int .u32 (ns[j]?.getD 0 : Nat)) := by rw [hN.cell]; exact (HC.out j hlt).1
      have hx := (HC.out j hlt).2
      have hjl : j < ns.length := by rw [HNS.out]; exact hlt
      have HS := Lib.hid (putAll_snoc ns 4 false j hjl)
      generalize ns[j]?.getD 0 = y at *
      go_wp2_with (go_at_call 84; refine (rput_any A' (12 + 4 * j) c' false _ wr y 4 hR (by omega) (by omega)).mono ?_; rintro e w5 ⟨A5, c5, rfl, hO, hB⟩)
      go_roundw
      case rel =>
        refine ⟨j + 1, by omega, by go_num, A5, c5, by rw [show 12 + 4 * (j + 1) = 12 + 4 * j + 4 by omega], ?_, hN.below hB (by omega), hZ.below hB hZ.lt, hBr.trans (hB.mono hBr.size), Nat.lt_of_lt_of_le hsr hB.size⟩
        have := Rd.of_own hO
        rw [HS.out, ← List.append_assoc, show 12 + 4 * (j + 1) = 12 + 4 * j + 4 by omega]
        exact this
      case measure => simp [intOf]; omega
    · obtain rfl : j = 5 := by omega
      have hL : [] ++ putNum l 4 false ++ putNum t 8 false ++ putAll (ns.take 5) 4 false = adBytes l t k a b c m := by rw [HNS.out]; simp [putAll, adBytes]
      rw [hL] at hR
      have HL : Hid ((bcells (adBytes l t k a b c m)).length = 32) := Lib.hid (by rw [bcells_length, adBytes_length])
      clear hL
      obtain ⟨g, off, rfl, hgb, hr⟩ := hR.range (by omega)
      have harr := fun W => run_arrayAt (P := Tryz.prog) W Tryz.underlying39 (some ⟨g, off, none⟩) 32 c' (Nat.le_refl _)
      clear hR hN hbn hb2 B3 r3
      go_wp2_with (first
        | (refine wpList_load_mid rfl 39 _ rfl g off rfl (bcells (adBytes l t k a b c m)) _ hr Tryz.underlying39 rfl (by rw [HL.out]; exact infNode) ?_)
        | (refine wpList_storeAll wr rfl 39 _ _ rfl (w.heap.size + 1) _ _ _ hZ rfl rfl (by simpa using HL.out) (by rw [List.size_toArray, HL.out]; exact infNode) (by simpa using bcells_one _) ?_; intro w11 hb11 hg11 hs11))
      refine bodyPost_ret (results_cell_row rfl _ _ (w.heap.size + 1) _ _ _ _ rfl hb11 Tryz.underlying39 rfl (by rw [List.size_toArray, HL.out]; exact infNode)) rfl ⟨rfl, ?_⟩
      exact grown_below hBr hg11 hBr.size (by omega)
end
end Go.Proofs.YtipdmhppadapkaaGreatDoor
/-
  Walks: prf.Prf, portreeveref04.Prf.
-/
namespace Go.Proofs.YtipdmhppadapkaaGreatDoor
open Go.RowKit Sha

def Ad.bytes (x : Ad) : List UInt8 := adBytes x.layer x.tree x.kind x.a x.b x.c x.mask
theorem Ad.bytes_length (x : Ad) : x.bytes.length = 32 := adBytes_length _ _ _ _ _ _ _
def prfH (k : List UInt8) (x : Ad) : List UInt8 := keyed 3 (k ++ x.bytes)
theorem Ad.one (x : Ad) : ∀ v ∈ x.cells.toList, v.oneCell' = true := by
  intro v hv; simp [Ad.cells] at hv; rcases hv with rfl | rfl | rfl | rfl | rfl | rfl | rfl <;> rfl
theorem Ad.size (x : Ad) : x.cells.size = 7 := rfl
theorem abytesX (x : Ad) (w : World) : Calls Tryz.prog 171 #[.agg x.cells] w fun e w' => e = .returned (.agg (bcells x.bytes).toArray) ∧ Below w.heap.size w w' := abytes_any _ _ _ _ _ _ _ w
theorem rbytesX (x : Ad) (hx : x.ok) (w : World) : Calls Tryz.prog 155 #[.agg x.cells] w fun e w' => e = .returned (.agg (bcells x.bytes).toArray) ∧ Below w.heap.size w w' := rbytes_any _ _ _ _ _ _ _ w hx.layer hx.kind hx.a hx.b hx.c hx.mask

set_option maxRecDepth 100000 in
set_option maxHeartbeats 1000000 in
theorem mprf_any (k : List UInt8) (hk : k.length = 32) (x : Ad) (w : World) (hT : Tabs w) :
    Calls Tryz.prog 146 #[.agg (bcells k).toArray, .agg x.cells] w fun e w' => e = .returned (.agg (bcells (prfH k x)).toArray) ∧ Below w.heap.size w w' := by
  have hz := zeroNode
  have hB0 : 0 < w.heap.size + 2 := by have := hT.first.lt; omega
  have hB1' : 1 < w.heap.size + 2 := by have := hT.rounds.lt; omega
  obtain ⟨S, hS⟩ : ∃ S, S = prfH k x := ⟨_, rfl⟩
  rw [← hS]
  have HSl : Hid (S.length = 32) := Lib.hid (by rw [hS]; exact keyed_length _ _)
  obtain ⟨ab, hab⟩ : ∃ ab, ab = x.bytes := ⟨_, rfl⟩
  have abL : Hid (ab.length = 32) := Lib.hid (by rw [hab]; exact x.bytes_length)
  obtain ⟨xc, hxc⟩ : ∃ xc, xc = x.cells := ⟨_, rfl⟩
  have HXC := Lib.hid hxc
  have HAB := Lib.hid hab
  have HS := Lib.hid hS
  rw [← hxc]
  have hxs : Hid (xc.size = 7) := Lib.hid (by rw [hxc]; rfl)
  have hA0 := ((Blk.new w 39 (bcells k).toArray).alloc (.cells xc 162)).alloc (.cells zn 39)
  have hX0 := (blk_new1 w (.cells (bcells k).toArray 39) 162 xc).alloc (.cells zn 39)
  have hN := blk_new2 w (.cells (bcells k).toArray 39) (.cells xc 162) 39 zn
  have hB : Below w.heap.size w (((w.alloc (.cells (bcells k).toArray 39)).alloc (.cells xc 162)).alloc (.cells zn 39)) := (((Below.refl _ _).alloc (Nat.le_refl _) _).alloc (by simp) _).alloc (by simp; omega) _
  have hT0' := ((hT.alloc (.cells (bcells k).toArray 39)).alloc (.cells xc 162)).alloc (.cells zn 39)
  clear hS hab hxc
  go_enter Tryz.func146, Tryz.ntmps146
  go_wp2_with ((with_reducible refine at_load 162 ?_); refine wpList_loadAll _ rfl 162 _ rfl (w.heap.size + 1) 162 xc hX0 _ rfl Tryz.underlying162 rfl (by rw [hxs.out]; exact infAdrs) ?_)
  generalize ((w.alloc (.cells (bcells k).toArray 39)).alloc (.cells xc 162)).alloc (.cells zn 39) = W0 at *
  rw [HXC.out]
  refine (abytesX x W0).mono ?_
  rintro e W1 ⟨rfl, hB1⟩
  rw [← HAB.out]
  have hA1 := hA0.below hB1 hA0.lt
  have hN1 := hN.below hB1 hN.lt
  have hBw := hB.trans (hB1.mono hB.size)
  have hT1 := hT0'.below hB1
  have hs1 : w.heap.size + 2 < W1.heap.size := hN1.lt
  clear hA0 hX0 hN hB hB1
  go_wp2_with ((with_reducible refine at_store 39 ?_); refine wpList_storeAll _ rfl 39 _ _ rfl W1.heap.size 39 _ (bcells ab).toArray (Blk.new W1 39 zn) rfl rfl (by rw [List.size_toArray, bcells_length, abL.out]; kernel_rfl) (by rw [List.size_toArray, bcells_length, abL.out]; kernel_rfl) (fun v hv => bcells_one _ v (by simpa using hv)) ?_; intro w5 h5 hg5 hs5)
  have hC5 : Chg (fun b => b = W1.heap.size) W1 w5 := ((Chg.refl _ W1).alloc _).trans (Chg.grown hg5 (by rintro j h; cases h; rfl))
  have hA5 := hA1.chg hC5 (show ¬ w.heap.size = W1.heap.size by omega)
  have hN := hN1.chg hC5 (show ¬ w.heap.size + 2 = W1.heap.size by omega)
  have hB5 : Below w.heap.size w w5 := hBw.trans (hC5.below (fun b hb => by have hb : b = W1.heap.size := hb; omega) (by omega))
  have hT5 : Tabs w5 := ⟨hT1.first.chg hC5 (show ¬ _ = _ by have := hT1.first.lt; omega), hT1.rounds.chg hC5 (show ¬ _ = _ by have := hT1.rounds.lt; omega)⟩
  have hgne : ¬ W1.heap.size = w.heap.size + 2 := by omega
  generalize W1.heap.size = g5 at *
  clear hC5 hg5 hs5 hA1 hN1 hBw hz
  have hsz : w.heap.size + 2 ≤ w5.drew.heap.size := Nat.le_of_lt hN.lt
  have hA : Rd w5.drew (w.heap.size + 2) 1 (some ⟨w.heap.size, 0, none⟩) 32 (bcells k) := (hA5.drew.rdB 32 (by simp [bcells_length, hk]) (by omega))
  have hT0 := hT5.drew
  have hB1 := hB1'
  have hSe : Hid (keyed 3 (Bs.all [⟨some ⟨w.heap.size, 0, none⟩, 32, 32, k⟩, ⟨some ⟨g5, 0, none⟩, 32, 32, ab⟩]) = S) := Lib.hid (by rw [HS.out, HAB.out]; simp [Bs.all, prfH])
  clear hT5 hT1 hT0' hT
  simp only [Act.put]
  refine Flow.wp_region_flow (w.heap.size + 2) [(4, fun b => b = w.heap.size + 2)] [(4, fun W => Blk W (w.heap.size + 2) 39 (zn)), (3, fun W => Blk W g5 39 ((bcells ab).toArray))] (by kernel_rfl) (by kernel_rfl) hsz (Flow.nz_cons (by rintro b rfl; exact Nat.le_refl _) Flow.nz_nil) (Flow.facts_cons (hN.drew) (Flow.kept_blk id) (Flow.fz_cons (Flow.no_follow (by kernel_rfl)) Flow.fz_nil) (Flow.facts_cons (h5.drew) (Flow.kept_blk id) (Flow.fz_cons (Flow.no_follow (by kernel_rfl)) Flow.fz_nil) Flow.facts_nil)) ?_
  refine Flow.pass_val (.slice (some ⟨w.heap.size, 0, none⟩) 32 32) (Flow.met_none rfl) (fun a W hH => ?_) ?_
  · have e0 := Flow.see_old 2 hH.sees (by kernel_rfl) (by kernel_rfl) rfl
    go_simp; first | done | rfl
  refine Flow.pass_val (.slice (some ⟨g5, 0, none⟩) 32 32) (Flow.met_none rfl) (fun a W hH => ?_) ?_
  · have e0 := Flow.see_old 5 hH.sees (by kernel_rfl) (by kernel_rfl) rfl
    go_simp; first | done | rfl
  refine Flow.pass_lin [4] (fun v W => ∃ b, v = .slice (some ⟨b, 0, none⟩) 2 2 ∧ Blk W b 22 #[.slice (some ⟨w.heap.size, 0, none⟩) 32 32, .slice (some ⟨g5, 0, none⟩) 32 32]) (Flow.kept_lin [4] (fun _ _ _ c ⟨b, h1, h2⟩ => ⟨b, h1, h2.ext c.ext⟩) (Flow.lz_cons (fun _ => .inl rfl) Flow.lz_nil)) (Flow.met_none rfl) (fun a W hH => ?_) ?_
  · have e0 := Flow.see_new 8 0 hH.sees (by kernel_rfl) (by kernel_rfl) rfl rfl
    have e1 := Flow.see_new 9 1 hH.sees (by kernel_rfl) (by kernel_rfl) rfl rfl
    refine Flow.wp_run (Flow.reg_buildSlice _ rfl (by simp [Act.eval, e0, e1]) (run_bs2 W (some ⟨w.heap.size, 0, none⟩) 32 32 (some ⟨g5, 0, none⟩) 32 32)) ?_
    exact ⟨_, rfl, Chg.of_ext ((Ext.refl W).alloc _), W.heap.size, rfl, Blk.new _ _ _⟩
  refine Flow.pass_step (Reg.eqs (.agg (bcells S).toArray)) (fun _ _ => Flow.kept_eqs _ _) (Flow.met_none rfl) (fun a W hH => ?_) ?_
  · obtain ⟨b0, e0, q0⟩ := Flow.see_lin 10 2 hH.sees (by kernel_rfl) (by kernel_rfl) rfl rfl (by kernel_rfl)
    have fa1 : (fun W => Blk W g5 39 ((bcells ab).toArray)) W := hH.fact _ (List.mem_of_getElem? (i := 1) rfl) rfl
    refine Reg.wp_call rfl Tryz.func119 rfl (by kernel_rfl) (by simp [Act.eval, e0]) (mkeyed_any 3 (by decide) (some ⟨b0, 0, none⟩) 2 2 [⟨some ⟨w.heap.size, 0, none⟩, 32, 32, k⟩, ⟨some ⟨g5, 0, none⟩, 32, 32, ab⟩] W (q0.rd rfl) (ok2 (rdN hA hH.below) (fa1.rd (by simp [bcells_length, abL.out]))) (cap2 _ _ _ _) (by simp [Bs.tot]) (by omega) (hT0.under hH.below hB1 hB0)) ?_
    rintro e w' ⟨rfl, hB⟩
    rw [hSe.out]
    exact ⟨_, rfl, _, rfl, hB, rfl⟩
  refine Flow.pass_list (fun _ W => Blk W (w.heap.size + 2) 39 (bcells S).toArray) (Flow.kept_of (fun _ _ _ c h => h.chg c id) (Flow.kz_cons (Flow.no_follow (by kernel_rfl)) Flow.kz_nil)) (Flow.met_none rfl) (fun a W hH => ?_) ?_
  · have e0 := Flow.see_old 4 hH.sees (by kernel_rfl) (by kernel_rfl) rfl
    have e1 := Flow.see_new 11 3 hH.sees (by kernel_rfl) (by kernel_rfl) rfl rfl
    have fa0 : (fun W => Blk W (w.heap.size + 2) 39 (zn)) W := hH.fact _ (List.mem_of_getElem? (i := 0) rfl) rfl
    refine wpList_storeAll W rfl 39 _ _ rfl (w.heap.size + 2) 39 _ (bcells S).toArray fa0 (by simpa [Act.eval] using e0) (by simpa [Act.eval] using e1) (by rw [List.size_toArray, bcells_length, HSl.out]; kernel_rfl) (by rw [List.size_toArray, bcells_length, HSl.out]; kernel_rfl) (fun v hv => bcells_one _ v (by simpa using hv)) ?_
    intro W2 h2 hg _
    exact Flow.qq_nil ⟨_, rfl, Chg.grown hg (by rintro k h; cases h; rfl), h2⟩
  refine Flow.pass_end [none, none, none, none, none, none, none, none, some 8, some 9, some 10, some 11] (by kernel_rfl) ?_
  intro f gg w9 hB9 hfa hT' hfg
  have h4 := hT' 4 _ (by kernel_rfl) rfl
  have hBw9 := hB5.drew.trans (hB9.mono (by omega))
  clear hfa hT' hfg hB5 hB9 hN
  simp only [Reg.sel]
  go_wp2
  refine bodyPost_ret (results_cell_row rfl _ _ (w.heap.size + 2) _ _ _ _ rfl h4 Tryz.underlying39 rfl (by rw [List.size_toArray, bcells_length, HSl.out]; kernel_rfl)) rfl ⟨rfl, hBw9⟩

set_option maxRecDepth 100000 in
set_option maxHeartbeats 1000000 in
theorem rprf_any (k : List UInt8) (hk : k.length = 32) (x : Ad) (w : World) (hx : x.ok) :
    Calls Tryz.prog 128 #[.agg (bcells k).toArray, .agg x.cells] w fun e w' => e = .returned (.agg (bcells (prfH k x)).toArray) ∧ Below w.heap.size w w' := by
  have hz := zeroNode
  obtain ⟨S, hS⟩ : ∃ S, S = prfH k x := ⟨_, rfl⟩
  rw [← hS]
  have HSl : Hid (S.length = 32) := Lib.hid (by rw [hS]; exact keyed_length _ _)
  obtain ⟨ab, hab⟩ : ∃ ab, ab = x.bytes := ⟨_, rfl⟩
  have abL : Hid (ab.length = 32) := Lib.hid (by rw [hab]; exact x.bytes_length)
  obtain ⟨xc, hxc⟩ : ∃ xc, xc = x.cells := ⟨_, rfl⟩
  have HXC := Lib.hid hxc
  have HAB := Lib.hid hab
  have HS := Lib.hid hS
  rw [← hxc]
  have hxs : Hid (xc.size = 7) := Lib.hid (by rw [hxc]; rfl)
  have hA0 := ((Blk.new w 39 (bcells k).toArray).alloc (.cells xc 162)).alloc (.cells zn 39)
  have hX0 := (blk_new1 w (.cells (bcells k).toArray 39) 162 xc).alloc (.cells zn 39)
  have hN := blk_new2 w (.cells (bcells k).toArray 39) (.cells xc 162) 39 zn
  have hB : Below w.heap.size w (((w.alloc (.cells (bcells k).toArray 39)).alloc (.cells xc 162)).alloc (.cells zn 39)) := (((Below.refl _ _).alloc (Nat.le_refl _) _).alloc (by simp) _).alloc (by simp; omega) _
  clear hS hab hxc
  go_enter Tryz.func128, Tryz.ntmps128
  go_wp2_with ((with_reducible refine at_load 162 ?_); refine wpList_loadAll _ rfl 162 _ rfl (w.heap.size + 1) 162 xc hX0 _ rfl Tryz.underlying162 rfl (by rw [hxs.out]; exact infAdrs) ?_)
  generalize ((w.alloc (.cells (bcells k).toArray 39)).alloc (.cells xc 162)).alloc (.cells zn 39) = W0 at *
  rw [HXC.out]
  refine (rbytesX x hx W0).mono ?_
  rintro e W1 ⟨rfl, hB1⟩
  rw [← HAB.out]
  have hA1 := hA0.below hB1 hA0.lt
  have hN1 := hN.below hB1 hN.lt
  have hBw := hB.trans (hB1.mono hB.size)
  have hs1 : w.heap.size + 2 < W1.heap.size := hN1.lt
  clear hA0 hX0 hN hB hB1
  go_wp2_with ((with_reducible refine at_store 39 ?_); refine wpList_storeAll _ rfl 39 _ _ rfl W1.heap.size 39 _ (bcells ab).toArray (Blk.new W1 39 zn) rfl rfl (by rw [List.size_toArray, bcells_length, abL.out]; kernel_rfl) (by rw [List.size_toArray, bcells_length, abL.out]; kernel_rfl) (fun v hv => bcells_one _ v (by simpa using hv)) ?_; intro w5 h5 hg5 hs5)
  have hC5 : Chg (fun b => b = W1.heap.size) W1 w5 := ((Chg.refl _ W1).alloc _).trans (Chg.grown hg5 (by rintro j h; cases h; rfl))
  have hA5 := hA1.chg hC5 (show ¬ w.heap.size = W1.heap.size by omega)
  have hN := hN1.chg hC5 (show ¬ w.heap.size + 2 = W1.heap.size by omega)
  have hB5 : Below w.heap.size w w5 := hBw.trans (hC5.below (fun b hb => by have hb : b = W1.heap.size := hb; omega) (by omega))
  have hgne : ¬ W1.heap.size = w.heap.size + 2 := by omega
  generalize W1.heap.size = g5 at *
  clear hC5 hg5 hs5 hA1 hN1 hBw hz
  have hsz : w.heap.size + 2 ≤ w5.drew.heap.size := Nat.le_of_lt hN.lt
  have hA : Rd w5.drew (w.heap.size + 2) 1 (some ⟨w.heap.size, 0, none⟩) 32 (bcells k) := (hA5.drew.rdB 32 (by simp [bcells_length, hk]) (by omega))
  have hSe : Hid (keyed 3 ([] ++ k ++ ab) = S) := Lib.hid (by rw [HS.out, HAB.out]; rfl)
  obtain ⟨nb, hnb'⟩ : ∃ nb, nb = w5.drew.heap.size := ⟨_, rfl⟩
  have hnb : nb ≤ w5.drew.heap.size := by omega
  have hnb5 : ¬ nb ≤ g5 := by have : g5 < w5.drew.heap.size := h5.lt; omega
  have hnb2 : ¬ nb ≤ w.heap.size + 2 := by have : w.heap.size + 2 < w5.drew.heap.size := hN.lt; omega
  clear hnb'
  simp only [Act.put]
  refine Flow.wp_region_flow (w.heap.size + 2) [(3, fun b => nb ≤ b), (5, fun b => b = w.heap.size + 2)] [(5, fun W => Blk W (w.heap.size + 2) 39 (zn)), (3, fun W => Blk W g5 39 ((bcells ab).toArray))] (by kernel_rfl) (by kernel_rfl) hsz (Flow.nz_cons (fun b h => by have h2 : nb ≤ b := h; omega) (Flow.nz_cons (by rintro b rfl; exact Nat.le_refl _) Flow.nz_nil)) (Flow.facts_cons (hN.drew) (Flow.kept_blk id) (Flow.fz_cons (fun _ => Flow.kept_blk (by first | assumption | (show ¬ _ = _; first | assumption | omega | (simp; omega)) | (show ¬ (_ ≤ _); omega))) (Flow.fz_cons (Flow.no_follow (by kernel_rfl)) Flow.fz_nil)) (Flow.facts_cons (h5.drew) (Flow.kept_blk id) (Flow.fz_cons (Flow.no_follow (by kernel_rfl)) (Flow.fz_cons (Flow.no_follow (by kernel_rfl)) Flow.fz_nil)) Flow.facts_nil)) ?_
  refine Flow.pass_val (.slice (some ⟨w.heap.size, 0, none⟩) 32 32) (Flow.met_none rfl) (fun a W hH => ?_) ?_
  · have e0 := Flow.see_old 2 hH.sees (by kernel_rfl) (by kernel_rfl) rfl
    go_simp; first | done | rfl
  refine Flow.pass_linlist [3, 5] (fun v W => ∃ A c, v = .slice A (0 + 32) c ∧ W.ownsRow nb 5 1 (.slice A (0 + 32) c) (0 + 32) (bcells ([] ++ k))) (Flow.kept_lin [3, 5] (fun _ _ _ c ⟨A, k, h1, h2⟩ => ⟨A, k, h1, own_chg h2 c (fun _ _ => id)⟩) (Flow.lz_cons (fun _ => .inl rfl) (Flow.lz_cons (fun _ => .inl rfl) Flow.lz_nil))) (Flow.met_none rfl) (fun a W hH => ?_) ?_
  · have e0 := Flow.see_new 8 0 hH.sees (by kernel_rfl) (by kernel_rfl) rfl rfl
    refine wpList_app W el8 rfl _ _ rfl nb none 0 0 _ (by simp [Act.eval]) (own_nil _ _ _ _) (w.heap.size + 2) (some ⟨w.heap.size, 0, none⟩) 32 32 (bcells k) (by simpa [Act.eval] using e0) (hA.below hH.below) (bcells_one k) (by omega) (by omega) (Nat.le_trans hnb hH.below.size) ?_
    intro A' c' W2 hO2 hg hB _
    exact Flow.qq_nil ⟨_, rfl, Chg.of_ext (Chg.grown (Z := fun _ => False) hg (by rintro j h; cases h)).ext, A', c', rfl, hO2⟩
  refine Flow.pass_val (.slice (some ⟨g5, 0, none⟩) 32 32) (Flow.met_none rfl) (fun a W hH => ?_) ?_
  · have e0 := Flow.see_old 5 hH.sees (by kernel_rfl) (by kernel_rfl) rfl
    go_simp; first | done | rfl
  refine Flow.pass_linlist [5] (fun v W => ∃ A c, v = .slice A (0 + 32 + 32) c ∧ W.ownsRow nb 5 1 (.slice A (0 + 32 + 32) c) (0 + 32 + 32) (bcells ([] ++ k ++ ab))) (Flow.kept_lin [5] (fun _ _ _ c ⟨A, k, h1, h2⟩ => ⟨A, k, h1, own_chg h2 c (fun _ _ => id)⟩) (Flow.lz_cons (Flow.no_follow (by kernel_rfl)) (Flow.lz_cons (fun _ => .inl rfl) Flow.lz_nil))) (Flow.met_none rfl) (fun a W hH => ?_) ?_
  · obtain ⟨A0, c0, e0, q0⟩ := Flow.see_lin 9 1 hH.sees (by kernel_rfl) (by kernel_rfl) rfl rfl (by kernel_rfl)
    have e1 := Flow.see_new 10 2 hH.sees (by kernel_rfl) (by kernel_rfl) rfl rfl
    have fa1 : (fun W => Blk W g5 39 ((bcells ab).toArray)) W := hH.fact _ (List.mem_of_getElem? (i := 1) rfl) rfl
    refine wpList_app W el8 rfl _ _ rfl nb A0 (0 + 32) c0 _ (by simpa [Act.eval] using e0) q0 W.heap.size (some ⟨g5, 0, none⟩) 32 32 (bcells ab) (by simpa [Act.eval] using e1) (fa1.rd (by simp [bcells_length, abL.out])) (bcells_one ab) (by omega) (by omega) (Nat.le_trans hnb hH.below.size) ?_
    intro A' c' W2 hO2 hg hB _
    exact Flow.qq_nil ⟨_, rfl, Chg.of_below hB (fun k hk _ => hk), A', c', rfl, by rw [bcells_append]; exact hO2⟩
  refine Flow.pass_step (Reg.eqs (.agg (bcells S).toArray)) (fun _ _ => Flow.kept_eqs _ _) (Flow.met_none rfl) (fun a W hH => ?_) ?_
  · obtain ⟨A0, c0, e0, q0⟩ := Flow.see_lin 11 3 hH.sees (by kernel_rfl) (by kernel_rfl) rfl rfl (by kernel_rfl)
    refine Reg.wp_call rfl Tryz.func85 rfl (by kernel_rfl) (by simp [Act.eval, e0]) (rkeyed_any 3 (by decide) A0 (0 + 32 + 32) c0 ([] ++ k ++ ab) W (Rd.of_own q0) (by omega)) ?_
    rintro e w' ⟨rfl, hB⟩
    rw [hSe.out]
    exact ⟨_, rfl, _, rfl, hB, rfl⟩
  refine Flow.pass_list (fun _ W => Blk W (w.heap.size + 2) 39 (bcells S).toArray) (Flow.kept_of (fun _ _ _ c h => h.chg c id) (Flow.kz_cons (Flow.no_follow (by kernel_rfl)) (Flow.kz_cons (Flow.no_follow (by kernel_rfl)) Flow.kz_nil))) (Flow.met_none rfl) (fun a W hH => ?_) ?_
  · have e0 := Flow.see_old 4 hH.sees (by kernel_rfl) (by kernel_rfl) rfl
    have e1 := Flow.see_new 12 4 hH.sees (by kernel_rfl) (by kernel_rfl) rfl rfl
    have fa0 : (fun W => Blk W (w.heap.size + 2) 39 (zn)) W := hH.fact _ (List.mem_of_getElem? (i := 0) rfl) rfl
    refine wpList_storeAll W rfl 39 _ _ rfl (w.heap.size + 2) 39 _ (bcells S).toArray fa0 (by simpa [Act.eval] using e0) (by simpa [Act.eval] using e1) (by rw [List.size_toArray, bcells_length, HSl.out]; kernel_rfl) (by rw [List.size_toArray, bcells_length, HSl.out]; kernel_rfl) (fun v hv => bcells_one _ v (by simpa using hv)) ?_
    intro W2 h2 hg _
    exact Flow.qq_nil ⟨_, rfl, Chg.grown hg (by rintro k h; cases h; rfl), h2⟩
  refine Flow.pass_end [none, none, none, none, none, none, none, none, some 8, some 9, some 10, some 11, some 12] (by kernel_rfl) ?_
  intro f gg w9 hB9 hfa hT' hfg
  have h4 := hT' 5 _ (by kernel_rfl) rfl
  have hBw9 := hB5.drew.trans (hB9.mono (by omega))
  clear hfa hT' hfg hB5 hB9 hN
  simp only [Reg.sel]
  go_wp2
  refine bodyPost_ret (results_cell_row rfl _ _ (w.heap.size + 2) _ _ _ _ rfl h4 Tryz.underlying39 rfl (by rw [List.size_toArray, bcells_length, HSl.out]; kernel_rfl)) rfl ⟨rfl, hBw9⟩
end Go.Proofs.YtipdmhppadapkaaGreatDoor
/-
  Walks: prf.Rand and what it makes.
-/
namespace Go.Proofs.YtipdmhppadapkaaGreatDoor
open Go.RowKit Sha

def Ad.withMask (x : Ad) (q : Nat) : Ad := ⟨x.layer, x.tree, x.kind, x.a, x.b, x.c, q⟩
theorem Ad.ok_mask {x : Ad} (h : x.ok) (q : Nat) (hq : q < 4294967296) : (x.withMask q).ok := ⟨h.layer, h.tree, h.kind, h.a, h.b, h.c, hq⟩
theorem maskedX (x : Ad) (q : Nat) (w : World) : Calls Tryz.prog 147 #[.agg x.cells, .int .u32 (q : Int)] w fun e w' => e = .returned (.agg (x.withMask q).cells) ∧ Below w.heap.size w w' := masked_any _ _ _ _ _ _ _ w q
/-- two nodes joined -/
def randH (l r seed : List UInt8) (x : Ad) : List UInt8 := hH2 (prfH seed (x.withMask 0)) (xorL l (prfH seed (x.withMask 1))) (xorL r (prfH seed (x.withMask 2)))
set_option maxRecDepth 100000 in
set_option maxHeartbeats 1000000 in
theorem rand1_any (g6 g7 : Nat) (seed : List UInt8) (hs : seed.length = 32) (x : Ad) (q : Nat) (w : World) (h6 : Blk w g6 39 (bcells seed).toArray) (h7 : Blk w g7 162 x.cells) (hT : Tabs w) :
    Calls Tryz.prog 145 #[.int .u32 (q : Int), .pointer (some ⟨g6, 0, none⟩), .pointer (some ⟨g7, 0, none⟩)] w fun e w' => e = .returned (.agg (bcells (prfH seed (x.withMask q))).toArray) ∧ Below w.heap.size w w' := by
  have hz := zeroNode
  obtain ⟨S, hS⟩ : ∃ S, S = prfH seed (x.withMask q) := ⟨_, rfl⟩
  rw [← hS]
  have HSl : Hid (S.length = 32) := Lib.hid (by rw [hS]; exact keyed_length _ _)
  have HS := Lib.hid hS
  have sL := Lib.hid hs
  have hN := Blk.new w 39 zn
  have hB0 : Below w.heap.size w (w.alloc (.cells zn 39)) := (Below.refl _ _).alloc (Nat.le_refl _) _
  have h6' := h6.alloc (.cells zn 39)
  have h7' := h7.alloc (.cells zn 39)
  have hT' := hT.alloc (.cells zn 39)
  clear hS hs
  go_enter Tryz.func145, Tryz.ntmps145
  go_wp2_with fail
  generalize w.alloc (.cells zn 39) = W0 at *
  have h6d := h6'.drew
  have h7d := h7'.drew
  have hTd := hT'.drew
  have hsz : w.heap.size ≤ W0.drew.heap.size := hB0.size
  clear hz h6' h7' hT'
  refine Flow.wp_region_flow (w.heap.size) [(5, fun b => b = w.heap.size)] [(5, fun W => Blk W w.heap.size 39 (zn))] (by kernel_rfl) (by kernel_rfl) hsz (Flow.nz_cons (by rintro b rfl; exact Nat.le_refl _) Flow.nz_nil) (Flow.facts_cons (hN.drew) (Flow.kept_blk id) (Flow.fz_cons (Flow.no_follow (by kernel_rfl)) Flow.fz_nil) Flow.facts_nil) ?_
  refine Flow.pass_val (.agg (bcells seed).toArray) (Flow.met_none rfl) (fun a W hH => ?_) ?_
  · have e0 := Flow.see_old 1 hH.sees (by kernel_rfl) (by kernel_rfl) rfl
    exact reg_load 39 _ rfl e0 (h6d.below hH.below h6.lt) Tryz.underlying39 rfl (by rw [List.size_toArray, bcells_length, sL.out]; exact infNode)
  refine Flow.pass_val (.agg x.cells) (Flow.met_none rfl) (fun a W hH => ?_) ?_
  · have e0 := Flow.see_old 2 hH.sees (by kernel_rfl) (by kernel_rfl) rfl
    exact reg_load 162 _ rfl e0 (h7d.below hH.below h7.lt) Tryz.underlying162 rfl (by exact infAdrs)
  refine Flow.pass_old 0 (Flow.met_none rfl) (.inl rfl) (by kernel_rfl) (by kernel_rfl) rfl ?_
  refine Flow.pass_step (Reg.eqs (.agg (Ad.withMask x q).cells)) (fun _ _ => Flow.kept_eqs _ _) (Flow.met_none rfl) (fun a W hH => ?_) ?_
  · have e0 := Flow.see_new 6 1 hH.sees (by kernel_rfl) (by kernel_rfl) rfl rfl
    have e1 := Flow.see_new 7 2 hH.sees (by kernel_rfl) (by kernel_rfl) rfl rfl
    refine Reg.wp_call rfl Tryz.func147 rfl (by kernel_rfl) (by simp [Act.eval, e0, e1]) (maskedX x q W) ?_
    rintro e w' ⟨rfl, hB⟩
    exact ⟨_, rfl, _, rfl, hB, rfl⟩
  refine Flow.pass_step (Reg.eqs (.agg (bcells S).toArray)) (fun _ _ => Flow.kept_eqs _ _) (Flow.met_none rfl) (fun a W hH => ?_) ?_
  · have e0 := Flow.see_new 5 0 hH.sees (by kernel_rfl) (by kernel_rfl) rfl rfl
    have e1 := Flow.see_new 8 3 hH.sees (by kernel_rfl) (by kernel_rfl) rfl rfl
    refine Reg.wp_call rfl Tryz.func146 rfl (by kernel_rfl) (by simp [Act.eval, e0, e1]) (mprf_any seed sL.out (Ad.withMask x q) W (hTd.under hH.below hT.lt hT.first.lt)) ?_
    rintro e w' ⟨rfl, hB⟩
    rw [← HS.out]
    exact ⟨_, rfl, _, rfl, hB, rfl⟩
  refine Flow.pass_list (fun _ W => Blk W (w.heap.size) 39 (bcells S).toArray) (Flow.kept_of (fun _ _ _ c h => h.chg c id) (Flow.kz_cons (Flow.no_follow (by kernel_rfl)) Flow.kz_nil)) (Flow.met_none rfl) (fun a W hH => ?_) ?_
  · have e0 := Flow.see_old 4 hH.sees (by kernel_rfl) (by kernel_rfl) rfl
    have e1 := Flow.see_new 9 4 hH.sees (by kernel_rfl) (by kernel_rfl) rfl rfl
    have fa0 : (fun W => Blk W w.heap.size 39 (zn)) W := hH.fact _ (List.mem_of_getElem? (i := 0) rfl) rfl
    refine wpList_storeAll W rfl 39 _ _ rfl (w.heap.size) 39 _ (bcells S).toArray fa0 (by simpa [Act.eval] using e0) (by simpa [Act.eval] using e1) (by rw [List.size_toArray, bcells_length, HSl.out]; kernel_rfl) (by rw [List.size_toArray, bcells_length, HSl.out]; kernel_rfl) (fun v hv => bcells_one _ v (by simpa using hv)) ?_
    intro W2 h2 hg _
    exact Flow.qq_nil ⟨_, rfl, Chg.grown hg (by rintro k h; cases h; rfl), h2⟩
  refine Flow.pass_end [none, none, none, none, none, some 5, some 6, some 7, some 8, some 9] (by kernel_rfl) ?_
  intro f gg w9 hB9 hfa hT2 hfg
  have h4 := hT2 5 _ (by kernel_rfl) rfl
  have hBw9 := hB0.drew.trans hB9
  clear hfa hT2 hfg hB0 hB9 hN
  simp only [Reg.sel]
  go_wp2
  refine bodyPost_ret (results_cell_row rfl _ _ w.heap.size _ _ _ _ rfl h4 Tryz.underlying39 rfl (by rw [List.size_toArray, bcells_length, HSl.out]; kernel_rfl)) rfl ⟨rfl, hBw9⟩

set_option maxRecDepth 100000 in
set_option maxHeartbeats 2000000 in
theorem mrand_any (l r sd : List UInt8) (hl : l.length = 32) (hr : r.length = 32) (hsd : sd.length = 32) (x : Ad) (w : World) (hT : Tabs w) :
    Calls Tryz.prog 121 #[.agg (bcells l).toArray, .agg (bcells r).toArray, .agg (bcells sd).toArray, .agg x.cells] w fun e w' => e = .returned (.agg (bcells (randH l r sd x)).toArray) ∧ Below w.heap.size w w' := by
  have hz := zeroNode
  have lL := Lib.hid hl
  have rL := Lib.hid hr
  have sdL := Lib.hid hsd
  obtain ⟨K0, hK0⟩ : ∃ K, K = prfH sd (x.withMask 0) := ⟨_, rfl⟩
  obtain ⟨K1, hK1⟩ : ∃ K, K = prfH sd (x.withMask 1) := ⟨_, rfl⟩
  obtain ⟨K2, hK2⟩ : ∃ K, K = prfH sd (x.withMask 2) := ⟨_, rfl⟩
  obtain ⟨X1, hX1⟩ : ∃ X, X = xorL l K1 := ⟨_, rfl⟩
  obtain ⟨X2, hX2⟩ : ∃ X, X = xorL r K2 := ⟨_, rfl⟩
  obtain ⟨S, hS⟩ : ∃ S, S = hH2 K0 X1 X2 := ⟨_, rfl⟩
  have hSS : randH l r sd x = S := by rw [hS, hX1, hX2, hK0, hK1, hK2]; rfl
  rw [hSS]
  have HK0l : Hid (K0.length = 32) := Lib.hid (by rw [hK0]; exact keyed_length _ _)
  have HK1l : Hid (K1.length = 32) := Lib.hid (by rw [hK1]; exact keyed_length _ _)
  have HK2l : Hid (K2.length = 32) := Lib.hid (by rw [hK2]; exact keyed_length _ _)
  have HX1l : Hid (X1.length = 32) := Lib.hid (by rw [hX1]; exact xorL_length _ _ hl HK1l.out)
  have HX2l : Hid (X2.length = 32) := Lib.hid (by rw [hX2]; exact xorL_length _ _ hr HK2l.out)
  have HSl : Hid (S.length = 32) := Lib.hid (by rw [hS]; exact keyed_length _ _)
  have HK0 := Lib.hid hK0
  have HK1 := Lib.hid hK1
  have HK2 := Lib.hid hK2
  have HX1 := Lib.hid hX1
  have HX2 := Lib.hid hX2
  have HS := Lib.hid hS
  clear hl hr hsd hK0 hK1 hK2 hX1 hX2 hS hSS
  obtain ⟨xc, hxc⟩ : ∃ xc, xc = x.cells := ⟨_, rfl⟩
  have HXC := Lib.hid hxc
  rw [← hxc]
  have hb_l := (((Blk.new w 39 (bcells l).toArray).alloc (.cells (bcells r).toArray 39)).alloc (.cells (bcells sd).toArray 39)).alloc (.cells xc 162) |>.alloc (.cells zn 39)
  have hb_r := (((blk_new1 w (.cells (bcells l).toArray 39) 39 (bcells r).toArray).alloc (.cells (bcells sd).toArray 39)).alloc (.cells xc 162)).alloc (.cells zn 39)
  have hb_sd := ((blk_new2 w (.cells (bcells l).toArray 39) (.cells (bcells r).toArray 39) 39 (bcells sd).toArray).alloc (.cells xc 162)).alloc (.cells zn 39)
  have hb_x := (blk_new3 w (.cells (bcells l).toArray 39) (.cells (bcells r).toArray 39) (.cells (bcells sd).toArray 39) 162 xc).alloc (.cells zn 39)
  have hN := blk_new4 w (.cells (bcells l).toArray 39) (.cells (bcells r).toArray 39) (.cells (bcells sd).toArray 39) (.cells xc 162) 39 zn
  have hB : Below w.heap.size w (((((w.alloc (.cells (bcells l).toArray 39)).alloc (.cells (bcells r).toArray 39)).alloc (.cells (bcells sd).toArray 39)).alloc (.cells xc 162)).alloc (.cells zn 39)) := (((((Below.refl _ _).alloc (Nat.le_refl _) _).alloc (by simp) _).alloc (by simp; omega) _).alloc (by simp; omega) _).alloc (by simp; omega) _
  have hTl := hT.lt
  have hTl0 := hT.first.lt
  have hT0' := ((((hT.alloc (.cells (bcells l).toArray 39)).alloc (.cells (bcells r).toArray 39)).alloc (.cells (bcells sd).toArray 39)).alloc (.cells xc 162)).alloc (.cells zn 39)
  clear hxc hT
  go_enter Tryz.func121, Tryz.ntmps121
  go_wp2_with fail
  generalize ((((w.alloc (.cells (bcells l).toArray 39)).alloc (.cells (bcells r).toArray 39)).alloc (.cells (bcells sd).toArray 39)).alloc (.cells xc 162)).alloc (.cells zn 39) = W0 at *
  rw [HXC.out] at hb_x
  have hsz : w.heap.size + 4 ≤ W0.drew.heap.size := Nat.le_of_lt hN.lt
  have hT0 := hT0'.drew
  clear hz hT0'
  refine Flow.wp_region_flow (w.heap.size + 4) [(11, fun b => b = w.heap.size + 4)] [(11, fun W => Blk W (w.heap.size + 4) 39 (zn))] (by kernel_rfl) (by kernel_rfl) hsz (Flow.nz_cons (by rintro b rfl; exact Nat.le_refl _) Flow.nz_nil) (Flow.facts_cons (hN.drew) (Flow.kept_blk id) (Flow.fz_cons (Flow.no_follow (by kernel_rfl)) Flow.fz_nil) Flow.facts_nil) ?_
  refine Flow.pass_old (X := .func (.func 145) #[] #[.pointer (some ⟨w.heap.size + 2, 0, none⟩), .pointer (some ⟨w.heap.size + 3, 0, none⟩)]) 9 (Flow.met_none rfl) (.inl rfl) (by kernel_rfl) (by kernel_rfl) rfl ?_
  refine Flow.pass_gen (Reg.eqs (.agg (bcells K0).toArray)) (fun _ _ => Flow.kept_eqs _ _) (Flow.met_none rfl) (fun a W hH => ?_) ?_
  · have e0 := Flow.see_new 11 0 hH.sees (by kernel_rfl) (by kernel_rfl) rfl rfl
    refine Flow.wp_callF rfl e0 Tryz.func145 rfl (by kernel_rfl) (by simp [Act.eval]) (rand1_any (w.heap.size + 2) (w.heap.size + 3) sd sdL.out x 0 W (hb_sd.drew.below hH.below (by omega)) (hb_x.drew.below hH.below (by omega)) (hT0.under hH.below (by omega) (by omega))) ?_
    rintro e w' ⟨rfl, hB⟩
    rw [← HK0.out]
    exact ⟨_, rfl, Chg.of_ext hB, rfl⟩
  refine Flow.pass_val (.agg (bcells l).toArray) (Flow.met_none rfl) (fun a W hH => ?_) ?_
  · have e0 := Flow.see_old 4 hH.sees (by kernel_rfl) (by kernel_rfl) rfl
    exact reg_load 39 _ rfl e0 (hb_l.drew.below hH.below (by omega)) Tryz.underlying39 rfl (by rw [List.size_toArray, bcells_length, lL.out]; exact infNode)
  refine Flow.pass_old (X := .func (.func 145) #[] #[.pointer (some ⟨w.heap.size + 2, 0, none⟩), .pointer (some ⟨w.heap.size + 3, 0, none⟩)]) 9 (Flow.met_none rfl) (.inl rfl) (by kernel_rfl) (by kernel_rfl) rfl ?_
  refine Flow.pass_gen (Reg.eqs (.agg (bcells K1).toArray)) (fun _ _ => Flow.kept_eqs _ _) (Flow.met_none rfl) (fun a W hH => ?_) ?_
  · have e0 := Flow.see_new 14 3 hH.sees (by kernel_rfl) (by kernel_rfl) rfl rfl
    refine Flow.wp_callF rfl e0 Tryz.func145 rfl (by kernel_rfl) (by simp [Act.eval]) (rand1_any (w.heap.size + 2) (w.heap.size + 3) sd sdL.out x 1 W (hb_sd.drew.below hH.below (by omega)) (hb_x.drew.below hH.below (by omega)) (hT0.under hH.below (by omega) (by omega))) ?_
    rintro e w' ⟨rfl, hB⟩
    rw [← HK1.out]
    exact ⟨_, rfl, Chg.of_ext hB, rfl⟩
  refine Flow.pass_step (Reg.eqs (.agg (bcells X1).toArray)) (fun _ _ => Flow.kept_eqs _ _) (Flow.met_none rfl) (fun a W hH => ?_) ?_
  · have e0 := Flow.see_new 13 2 hH.sees (by kernel_rfl) (by kernel_rfl) rfl rfl
    have e1 := Flow.see_new 15 4 hH.sees (by kernel_rfl) (by kernel_rfl) rfl rfl
    refine Reg.wp_call rfl Tryz.func149 rfl (by kernel_rfl) (by simp [Act.eval, e0, e1]) (mxor_any l K1 lL.out HK1l.out W) ?_
    rintro e w' ⟨rfl, hB⟩
    rw [← HX1.out]
    exact ⟨_, rfl, _, rfl, hB, rfl⟩
  refine Flow.pass_val (.agg (bcells r).toArray) (Flow.met_none rfl) (fun a W hH => ?_) ?_
  · have e0 := Flow.see_old 5 hH.sees (by kernel_rfl) (by kernel_rfl) rfl
    exact reg_load 39 _ rfl e0 (hb_r.drew.below hH.below (by omega)) Tryz.underlying39 rfl (by rw [List.size_toArray, bcells_length, rL.out]; exact infNode)
  refine Flow.pass_old (X := .func (.func 145) #[] #[.pointer (some ⟨w.heap.size + 2, 0, none⟩), .pointer (some ⟨w.heap.size + 3, 0, none⟩)]) 9 (Flow.met_none rfl) (.inl rfl) (by kernel_rfl) (by kernel_rfl) rfl ?_
  refine Flow.pass_gen (Reg.eqs (.agg (bcells K2).toArray)) (fun _ _ => Flow.kept_eqs _ _) (Flow.met_none rfl) (fun a W hH => ?_) ?_
  · have e0 := Flow.see_new 18 7 hH.sees (by kernel_rfl) (by kernel_rfl) rfl rfl
    refine Flow.wp_callF rfl e0 Tryz.func145 rfl (by kernel_rfl) (by simp [Act.eval]) (rand1_any (w.heap.size + 2) (w.heap.size + 3) sd sdL.out x 2 W (hb_sd.drew.below hH.below (by omega)) (hb_x.drew.below hH.below (by omega)) (hT0.under hH.below (by omega) (by omega))) ?_
    rintro e w' ⟨rfl, hB⟩
    rw [← HK2.out]
    exact ⟨_, rfl, Chg.of_ext hB, rfl⟩
  refine Flow.pass_step (Reg.eqs (.agg (bcells X2).toArray)) (fun _ _ => Flow.kept_eqs _ _) (Flow.met_none rfl) (fun a W hH => ?_) ?_
  · have e0 := Flow.see_new 17 6 hH.sees (by kernel_rfl) (by kernel_rfl) rfl rfl
    have e1 := Flow.see_new 19 8 hH.sees (by kernel_rfl) (by kernel_rfl) rfl rfl
    refine Reg.wp_call rfl Tryz.func149 rfl (by kernel_rfl) (by simp [Act.eval, e0, e1]) (mxor_any r K2 rL.out HK2l.out W) ?_
    rintro e w' ⟨rfl, hB⟩
    rw [← HX2.out]
    exact ⟨_, rfl, _, rfl, hB, rfl⟩
  refine Flow.pass_step (Reg.eqs (.agg (bcells S).toArray)) (fun _ _ => Flow.kept_eqs _ _) (Flow.met_none rfl) (fun a W hH => ?_) ?_
  · have e0 := Flow.see_new 12 1 hH.sees (by kernel_rfl) (by kernel_rfl) rfl rfl
    have e1 := Flow.see_new 16 5 hH.sees (by kernel_rfl) (by kernel_rfl) rfl rfl
    have e2 := Flow.see_new 20 9 hH.sees (by kernel_rfl) (by kernel_rfl) rfl rfl
    refine Reg.wp_call rfl Tryz.func148 rfl (by kernel_rfl) (by simp [Act.eval, e0, e1, e2]) (mh_any K0 X1 X2 HK0l.out HX1l.out HX2l.out W (hT0.under hH.below (by omega) (by omega))) ?_
    rintro e w' ⟨rfl, hB⟩
    rw [← HS.out]
    exact ⟨_, rfl, _, rfl, hB, rfl⟩
  refine Flow.pass_list (fun _ W => Blk W (w.heap.size + 4) 39 (bcells S).toArray) (Flow.kept_of (fun _ _ _ c h => h.chg c id) (Flow.kz_cons (Flow.no_follow (by kernel_rfl)) Flow.kz_nil)) (Flow.met_none rfl) (fun a W hH => ?_) ?_
  · have e0 := Flow.see_old 8 hH.sees (by kernel_rfl) (by kernel_rfl) rfl
    have e1 := Flow.see_new 21 10 hH.sees (by kernel_rfl) (by kernel_rfl) rfl rfl
    have fa0 : (fun W => Blk W (w.heap.size + 4) 39 (zn)) W := hH.fact _ (List.mem_of_getElem? (i := 0) rfl) rfl
    refine wpList_storeAll W rfl 39 _ _ rfl (w.heap.size + 4) 39 _ (bcells S).toArray fa0 (by simpa [Act.eval] using e0) (by simpa [Act.eval] using e1) (by rw [List.size_toArray, bcells_length, HSl.out]; kernel_rfl) (by rw [List.size_toArray, bcells_length, HSl.out]; kernel_rfl) (fun v hv => bcells_one _ v (by simpa using hv)) ?_
    intro W2 h2 hg _
    exact Flow.qq_nil ⟨_, rfl, Chg.grown hg (by rintro k h; cases h; rfl), h2⟩
  refine Flow.pass_end [none, none, none, none, none, none, none, none, none, none, none, some 11, some 12, some 13, some 14, some 15, some 16, some 17, some 18, some 19, some 20, some 21] (by kernel_rfl) ?_
  intro f gg w9 hB9 hfa hT2 hfg
  have h4 := hT2 11 _ (by kernel_rfl) rfl
  have hBw9 := hB.drew.trans (hB9.mono (by omega))
  clear hfa hT2 hfg hB hB9 hN
  simp only [Reg.sel]
  go_wp2
  refine bodyPost_ret (results_cell_row rfl _ _ (w.heap.size + 4) _ _ _ _ rfl h4 Tryz.underlying39 rfl (by rw [List.size_toArray, bcells_length, HSl.out]; kernel_rfl)) rfl ⟨rfl, hBw9⟩
end Go.Proofs.YtipdmhppadapkaaGreatDoor
/-
  Walk: portreeveref04.Rand.
-/
namespace Go.Proofs.YtipdmhppadapkaaGreatDoor
open Go.RowKit Sha

/-- the reference's blocks while it joins two nodes -/
structure RR (w : World) (l r sd : List UInt8) (x : Ad) (wr : World) : Prop where
  l : Blk wr w.heap.size 39 (bcells l).toArray
  r : Blk wr (w.heap.size + 1) 39 (bcells r).toArray
  sd : Blk wr (w.heap.size + 2) 39 (bcells sd).toArray
  x : Blk wr (w.heap.size + 3) 162 x.cells
  n : Blk wr (w.heap.size + 4) 39 zn
  B : Below w.heap.size w wr
namespace RR
variable {w wr : World} {l r sd : List UInt8} {x : Ad}
theorem lt (h : RR w l r sd x wr) : w.heap.size + 4 < wr.heap.size := h.n.lt
theorem ext (h : RR w l r sd x wr) {w' : World} (e : Ext wr w') : RR w l r sd x w' := ⟨h.l.ext e, h.r.ext e, h.sd.ext e, h.x.ext e, h.n.ext e, h.B.trans (e.below h.B.size)⟩
theorem chg (h : RR w l r sd x wr) {w' : World} {g : Nat} (c : Chg (fun b => b = g) wr w') (hg : w.heap.size + 4 < g) : RR w l r sd x w' :=
  ⟨h.l.chg c (show ¬ _ = g by omega), h.r.chg c (show ¬ _ = g by omega), h.sd.chg c (show ¬ _ = g by omega), h.x.chg c (show ¬ _ = g by omega), h.n.chg c (show ¬ _ = g by omega), h.B.trans (c.below (fun b hb => by have hb : b = g := hb; omega) h.B.size)⟩
theorem setMask (h : RR w l r sd x wr) (q : Nat) : RR w l r sd (x.withMask q) (wr.setCell ⟨w.heap.size + 3, 6, none⟩ (.int .u32 (q : Int))) :=
  ⟨h.l.far (show w.heap.size ≠ w.heap.size + 3 by omega) _, h.r.far (show w.heap.size + 1 ≠ w.heap.size + 3 by omega) _, h.sd.far (show w.heap.size + 2 ≠ w.heap.size + 3 by omega) _, h.x.set_ 6 _, h.n.far (show w.heap.size + 4 ≠ w.heap.size + 3 by omega) _,
    h.B.setCell (p := ⟨w.heap.size + 3, 6, none⟩) (show w.heap.size ≤ w.heap.size + 3 by omega) _⟩
end RR

set_option maxRecDepth 100000 in
set_option maxHeartbeats 4000000 in
theorem rrand_any (l r sd : List UInt8) (hl : l.length = 32) (hr : r.length = 32) (hsd : sd.length = 32) (x : Ad) (hx' : x.ok) (w : World) :
    Calls Tryz.prog 86 #[.agg (bcells l).toArray, .agg (bcells r).toArray, .agg (bcells sd).toArray, .agg x.cells] w fun e w' => e = .returned (.agg (bcells (randH l r sd x)).toArray) ∧ Below w.heap.size w w' := by
  have hz := zeroNode
  have lL := Lib.hid hl
  have rL := Lib.hid hr
  have sdL := Lib.hid hsd
  obtain ⟨K0, hK0⟩ : ∃ K, K = prfH sd (x.withMask 0) := ⟨_, rfl⟩
  obtain ⟨K1, hK1⟩ : ∃ K, K = prfH sd (x.withMask 1) := ⟨_, rfl⟩
  obtain ⟨K2, hK2⟩ : ∃ K, K = prfH sd (x.withMask 2) := ⟨_, rfl⟩
  obtain ⟨X1, hX1⟩ : ∃ X, X = xorL l K1 := ⟨_, rfl⟩
  obtain ⟨X2, hX2⟩ : ∃ X, X = xorL r K2 := ⟨_, rfl⟩
  obtain ⟨S, hS⟩ : ∃ S, S = hH2 K0 X1 X2 := ⟨_, rfl⟩
  have hSS : randH l r sd x = S := by rw [hS, hX1, hX2, hK0, hK1, hK2]; rfl
  rw [hSS]
  have HK0l : Hid (K0.length = 32) := Lib.hid (by rw [hK0]; exact keyed_length _ _)
  have HK1l : Hid (K1.length = 32) := Lib.hid (by rw [hK1]; exact keyed_length _ _)
  have HK2l : Hid (K2.length = 32) := Lib.hid (by rw [hK2]; exact keyed_length _ _)
  have HX1l : Hid (X1.length = 32) := Lib.hid (by rw [hX1]; exact xorL_length _ _ hl HK1l.out)
  have HX2l : Hid (X2.length = 32) := Lib.hid (by rw [hX2]; exact xorL_length _ _ hr HK2l.out)
  have HSl : Hid (S.length = 32) := Lib.hid (by rw [hS]; exact keyed_length _ _)
  have HK0 := Lib.hid hK0
  have HK1 := Lib.hid hK1
  have HK2 := Lib.hid hK2
  have HX1 := Lib.hid hX1
  have HX2 := Lib.hid hX2
  have HS := Lib.hid hS
  clear hl hr hsd hK0 hK1 hK2 hX1 hX2 hS hSS
  have hx := Lib.hid hx'
  clear hx'
  have hM0 : RR w l r sd (x.withMask 0) (((((w.alloc (.cells (bcells l).toArray 39)).alloc (.cells (bcells r).toArray 39)).alloc (.cells (bcells sd).toArray 39)).alloc (.cells (x.cells.setIfInBounds 6 (.int .u32 0)) 162)).alloc (.cells zn 39)) :=
    ⟨((((Blk.new w _ _).alloc _).alloc _).alloc _).alloc _, (((blk_new1 w _ _ _).alloc _).alloc _).alloc _, ((blk_new2 w _ _ _ _).alloc _).alloc _, (blk_new3 w _ _ _ _ _).alloc _, blk_new4 w _ _ _ _ _ _,
      (((((Below.refl _ _).alloc (Nat.le_refl _) _).alloc (by simp) _).alloc (by simp; omega) _).alloc (by simp; omega) _).alloc (by simp; omega) _⟩
  go_enter Tryz.func86, Tryz.ntmps86
  go_wp2_with (first
    | ((with_reducible refine at_load 39 ?_); refine wpList_loadAll _ rfl 39 _ rfl (w.heap.size + 2) 39 (bcells sd).toArray hM0.sd _ rfl Tryz.underlying39 rfl (by rw [List.size_toArray, bcells_length, sdL.out]; kernel_rfl) ?_)
    | ((with_reducible refine at_load 162 ?_); refine wpList_loadAll _ rfl 162 _ rfl (w.heap.size + 3) 162 (x.withMask 0).cells hM0.x _ rfl Tryz.underlying162 rfl (by exact infAdrs) ?_))
  generalize (((((w.alloc (.cells (bcells l).toArray 39)).alloc (.cells (bcells r).toArray 39)).alloc (.cells (bcells sd).toArray 39)).alloc (.cells (x.cells.setIfInBounds 6 (.int .u32 0)) 162)).alloc (.cells zn 39)) = V0 at *
  refine (rprf_any sd sdL.out (x.withMask 0) V0 (Ad.ok_mask hx.out 0 (by omega))).mono ?_
  rintro e U0 ⟨rfl, hB0⟩
  rw [← HK0.out]
  have hP0 := hM0.ext hB0
  go_wp2_with (first
    | ((with_reducible refine at_store 39 ?_); refine wpList_storeAll _ rfl 39 _ _ rfl U0.heap.size 39 _ (bcells K0).toArray (Blk.new U0 39 zn) rfl rfl (by rw [List.size_toArray, bcells_length, HK0l.out]; kernel_rfl) (by rw [List.size_toArray, bcells_length, HK0l.out]; kernel_rfl) (fun v hv => bcells_one _ v (by simpa using hv)) ?_; intro w0 hk0 hg0 hs0; have hC0 : Chg (fun b => b = U0.heap.size) U0 w0 := ((Chg.refl _ U0).alloc _).trans (Chg.grown hg0 (by rintro j h; cases h; rfl)); have hR0 := hP0.chg hC0 hP0.lt; have hgt0 := hP0.lt; have hf1 : World.frozen? w0 ⟨w.heap.size + 1 + 1 + 1, 6, none⟩ = false := hR0.x.frozen 6; have hc1 : World.cell? w0 ⟨w.heap.size + 1 + 1 + 1, 6, none⟩ = some (.int .u32 ((x.withMask 0).mask : Int)) := (hR0.x.cell 6).trans rfl; have hM1 : RR w l r sd (x.withMask 1) (World.setCell w0 ⟨w.heap.size + 1 + 1 + 1, 6, none⟩ (.int .u32 (1 : Int))) := hR0.setMask 1; have hk0 : Blk (World.setCell w0 ⟨w.heap.size + 1 + 1 + 1, 6, none⟩ (.int .u32 (1 : Int))) U0.heap.size 39 (bcells K0).toArray := hk0.far (p := ⟨w.heap.size + 1 + 1 + 1, 6, none⟩) (show U0.heap.size ≠ w.heap.size + 1 + 1 + 1 by omega) _)
    | ((with_reducible refine at_load 39 ?_); refine wpList_loadAll _ rfl 39 _ rfl (w.heap.size + 2) 39 (bcells sd).toArray hM1.sd _ rfl Tryz.underlying39 rfl (by rw [List.size_toArray, bcells_length, sdL.out]; kernel_rfl) ?_)
    | ((with_reducible refine at_load 162 ?_); refine wpList_loadAll _ rfl 162 _ rfl (w.heap.size + 3) 162 (x.withMask 1).cells hM1.x _ rfl Tryz.underlying162 rfl (by exact infAdrs) ?_))
  generalize World.setCell w0 ⟨w.heap.size + 1 + 1 + 1, 6, none⟩ (.int .u32 (1 : Int)) = V1 at *
  clear hP0 hC0 hg0 hs0 hR0 hf1 hc1 hB0 hM0
  generalize U0.heap.size = g0 at *
  refine (rprf_any sd sdL.out (x.withMask 1) V1 (Ad.ok_mask hx.out 1 (by omega))).mono ?_
  rintro e U1 ⟨rfl, hB1⟩
  rw [← HK1.out]
  have hP1 := hM1.ext hB1
  have hk0 := hk0.below hB1 hk0.lt
  go_wp2_with (first
    | ((with_reducible refine at_store 39 ?_); refine wpList_storeAll _ rfl 39 _ _ rfl U1.heap.size 39 _ (bcells K1).toArray (Blk.new U1 39 zn) rfl rfl (by rw [List.size_toArray, bcells_length, HK1l.out]; kernel_rfl) (by rw [List.size_toArray, bcells_length, HK1l.out]; kernel_rfl) (fun v hv => bcells_one _ v (by simpa using hv)) ?_; intro w1 hk1 hg1 hs1; have hC1 : Chg (fun b => b = U1.heap.size) U1 w1 := ((Chg.refl _ U1).alloc _).trans (Chg.grown hg1 (by rintro j h; cases h; rfl)); have hR1 := hP1.chg hC1 hP1.lt; have hgt1 := hP1.lt; have hk0 := hk0.chg hC1 (show ¬ g0 = U1.heap.size by have := hk0.lt; omega); have hf2 : World.frozen? w1 ⟨w.heap.size + 1 + 1 + 1, 6, none⟩ = false := hR1.x.frozen 6; have hc2 : World.cell? w1 ⟨w.heap.size + 1 + 1 + 1, 6, none⟩ = some (.int .u32 ((x.withMask 1).mask : Int)) := (hR1.x.cell 6).trans rfl; have hM2 : RR w l r sd (x.withMask 2) (World.setCell w1 ⟨w.heap.size + 1 + 1 + 1, 6, none⟩ (.int .u32 (2 : Int))) := hR1.setMask 2; have hk0 : Blk (World.setCell w1 ⟨w.heap.size + 1 + 1 + 1, 6, none⟩ (.int .u32 (2 : Int))) g0 39 (bcells K0).toArray := hk0.far (p := ⟨w.heap.size + 1 + 1 + 1, 6, none⟩) (show g0 ≠ w.heap.size + 1 + 1 + 1 by omega) _; have hk1 : Blk (World.setCell w1 ⟨w.heap.size + 1 + 1 + 1, 6, none⟩ (.int .u32 (2 : Int))) U1.heap.size 39 (bcells K1).toArray := hk1.far (p := ⟨w.heap.size + 1 + 1 + 1, 6, none⟩) (show U1.heap.size ≠ w.heap.size + 1 + 1 + 1 by omega) _)
    | ((with_reducible refine at_load 39 ?_); refine wpList_loadAll _ rfl 39 _ rfl (w.heap.size + 2) 39 (bcells sd).toArray hM2.sd _ rfl Tryz.underlying39 rfl (by rw [List.size_toArray, bcells_length, sdL.out]; kernel_rfl) ?_)
    | ((with_reducible refine at_load 162 ?_); refine wpList_loadAll _ rfl 162 _ rfl (w.heap.size + 3) 162 (x.withMask 2).cells hM2.x _ rfl Tryz.underlying162 rfl (by exact infAdrs) ?_))
  generalize World.setCell w1 ⟨w.heap.size + 1 + 1 + 1, 6, none⟩ (.int .u32 (2 : Int)) = V2 at *
  clear hP1 hC1 hg1 hs1 hR1 hf2 hc2 hB1 hM1
  generalize U1.heap.size = g1 at *
  refine (rprf_any sd sdL.out (x.withMask 2) V2 (Ad.ok_mask hx.out 2 (by omega))).mono ?_
  rintro e U2 ⟨rfl, hB2⟩
  rw [← HK2.out]
  have hP2 := hM2.ext hB2
  have hk0 := hk0.below hB2 hk0.lt
  have hk1 := hk1.below hB2 hk1.lt
  go_wp2_with ((with_reducible refine at_store 39 ?_); refine wpList_storeAll _ rfl 39 _ _ rfl U2.heap.size 39 _ (bcells K2).toArray (Blk.new U2 39 zn) rfl rfl (by rw [List.size_toArray, bcells_length, HK2l.out]; kernel_rfl) (by rw [List.size_toArray, bcells_length, HK2l.out]; kernel_rfl) (fun v hv => bcells_one _ v (by simpa using hv)) ?_; intro w2 hk2 hg2 hs2)
  have hC2 : Chg (fun b => b = U2.heap.size) U2 w2 := ((Chg.refl _ U2).alloc _).trans (Chg.grown hg2 (by rintro j h; cases h; rfl))
  have hR2 := hP2.chg hC2 hP2.lt
  have hk0 := hk0.chg hC2 (show ¬ g0 = U2.heap.size by have := hk0.lt; omega)
  have hk1 := hk1.chg hC2 (show ¬ g1 = U2.heap.size by have := hk1.lt; omega)
  have hgt2 := hP2.lt
  generalize U2.heap.size = g2 at *
  clear hM2 hB2 hP2 hC2 hg2 hs2
  have hQ := hR2
  have hb_l := hQ.l
  have hb_r := hQ.r
  have hsz : w.heap.size + 4 ≤ w2.drew.heap.size := Nat.le_of_lt hQ.lt
  have hB := hQ.B
  have n0 : ¬ g0 = w.heap.size + 4 := by omega
  have n1 : ¬ g1 = w.heap.size + 4 := by omega
  have n2 : ¬ g2 = w.heap.size + 4 := by omega
  clear hz
  simp only [Act.put]
  refine Flow.wp_region_flow (w.heap.size + 4) [(8, fun b => b = w.heap.size + 4)] [(8, fun W => Blk W (w.heap.size + 4) 39 (zn)), (0, fun W => Blk W g0 39 ((bcells K0).toArray)), (2, fun W => Blk W g1 39 ((bcells K1).toArray)), (5, fun W => Blk W g2 39 ((bcells K2).toArray))] (by kernel_rfl) (by kernel_rfl) hsz (Flow.nz_cons (by rintro b rfl; exact Nat.le_refl _) Flow.nz_nil) (Flow.facts_cons (hQ.n.drew) (Flow.kept_blk id) (Flow.fz_cons (Flow.no_follow (by kernel_rfl)) Flow.fz_nil) (Flow.facts_cons (hk0.drew) (Flow.kept_blk id) (Flow.fz_cons (Flow.no_follow (by kernel_rfl)) Flow.fz_nil) (Flow.facts_cons (hk1.drew) (Flow.kept_blk id) (Flow.fz_cons (Flow.no_follow (by kernel_rfl)) Flow.fz_nil) (Flow.facts_cons (hk2.drew) (Flow.kept_blk id) (Flow.fz_cons (Flow.no_follow (by kernel_rfl)) Flow.fz_nil) Flow.facts_nil)))) ?_
  refine Flow.pass_val (.agg (bcells K0).toArray) (Flow.met_none rfl) (fun a W hH => ?_) ?_
  · have e0 := Flow.see_old 9 hH.sees (by kernel_rfl) (by kernel_rfl) rfl
    have fa1 : (fun W => Blk W g0 39 ((bcells K0).toArray)) W := hH.fact _ (List.mem_of_getElem? (i := 1) rfl) rfl
    exact reg_load 39 _ rfl e0 fa1 Tryz.underlying39 rfl (by rw [List.size_toArray, bcells_length, HK0l.out]; exact infNode)
  refine Flow.pass_val (.agg (bcells l).toArray) (Flow.met_none rfl) (fun a W hH => ?_) ?_
  · have e0 := Flow.see_old 4 hH.sees (by kernel_rfl) (by kernel_rfl) rfl
    exact reg_load 39 _ rfl e0 (hb_l.drew.below hH.below (by omega)) Tryz.underlying39 rfl (by rw [List.size_toArray, bcells_length, lL.out]; exact infNode)
  refine Flow.pass_val (.agg (bcells K1).toArray) (Flow.met_none rfl) (fun a W hH => ?_) ?_
  · have e0 := Flow.see_old 10 hH.sees (by kernel_rfl) (by kernel_rfl) rfl
    have fa2 : (fun W => Blk W g1 39 ((bcells K1).toArray)) W := hH.fact _ (List.mem_of_getElem? (i := 2) rfl) rfl
    exact reg_load 39 _ rfl e0 fa2 Tryz.underlying39 rfl (by rw [List.size_toArray, bcells_length, HK1l.out]; exact infNode)
  refine Flow.pass_step (Reg.eqs (.agg (bcells X1).toArray)) (fun _ _ => Flow.kept_eqs _ _) (Flow.met_none rfl) (fun a W hH => ?_) ?_
  · have e0 := Flow.see_new 25 1 hH.sees (by kernel_rfl) (by kernel_rfl) rfl rfl
    have e1 := Flow.see_new 26 2 hH.sees (by kernel_rfl) (by kernel_rfl) rfl rfl
    refine Reg.wp_call rfl Tryz.func130 rfl (by kernel_rfl) (by simp [Act.eval, e0, e1]) (rxor_any l K1 lL.out HK1l.out W) ?_
    rintro e w' ⟨rfl, hB⟩
    rw [← HX1.out]
    exact ⟨_, rfl, _, rfl, hB, rfl⟩
  refine Flow.pass_val (.agg (bcells r).toArray) (Flow.met_none rfl) (fun a W hH => ?_) ?_
  · have e0 := Flow.see_old 5 hH.sees (by kernel_rfl) (by kernel_rfl) rfl
    exact reg_load 39 _ rfl e0 (hb_r.drew.below hH.below (by omega)) Tryz.underlying39 rfl (by rw [List.size_toArray, bcells_length, rL.out]; exact infNode)
  refine Flow.pass_val (.agg (bcells K2).toArray) (Flow.met_none rfl) (fun a W hH => ?_) ?_
  · have e0 := Flow.see_old 11 hH.sees (by kernel_rfl) (by kernel_rfl) rfl
    have fa3 : (fun W => Blk W g2 39 ((bcells K2).toArray)) W := hH.fact _ (List.mem_of_getElem? (i := 3) rfl) rfl
    exact reg_load 39 _ rfl e0 fa3 Tryz.underlying39 rfl (by rw [List.size_toArray, bcells_length, HK2l.out]; exact infNode)
  refine Flow.pass_step (Reg.eqs (.agg (bcells X2).toArray)) (fun _ _ => Flow.kept_eqs _ _) (Flow.met_none rfl) (fun a W hH => ?_) ?_
  · have e0 := Flow.see_new 28 4 hH.sees (by kernel_rfl) (by kernel_rfl) rfl rfl
    have e1 := Flow.see_new 29 5 hH.sees (by kernel_rfl) (by kernel_rfl) rfl rfl
    refine Reg.wp_call rfl Tryz.func130 rfl (by kernel_rfl) (by simp [Act.eval, e0, e1]) (rxor_any r K2 rL.out HK2l.out W) ?_
    rintro e w' ⟨rfl, hB⟩
    rw [← HX2.out]
    exact ⟨_, rfl, _, rfl, hB, rfl⟩
  refine Flow.pass_step (Reg.eqs (.agg (bcells S).toArray)) (fun _ _ => Flow.kept_eqs _ _) (Flow.met_none rfl) (fun a W hH => ?_) ?_
  · have e0 := Flow.see_new 24 0 hH.sees (by kernel_rfl) (by kernel_rfl) rfl rfl
    have e1 := Flow.see_new 27 3 hH.sees (by kernel_rfl) (by kernel_rfl) rfl rfl
    have e2 := Flow.see_new 30 6 hH.sees (by kernel_rfl) (by kernel_rfl) rfl rfl
    refine Reg.wp_call rfl Tryz.func129 rfl (by kernel_rfl) (by simp [Act.eval, e0, e1, e2]) (rh_any K0 X1 X2 HK0l.out HX1l.out HX2l.out W) ?_
    rintro e w' ⟨rfl, hB⟩
    rw [← HS.out]
    exact ⟨_, rfl, _, rfl, hB, rfl⟩
  refine Flow.pass_list (fun _ W => Blk W (w.heap.size + 4) 39 (bcells S).toArray) (Flow.kept_of (fun _ _ _ c h => h.chg c id) (Flow.kz_cons (Flow.no_follow (by kernel_rfl)) Flow.kz_nil)) (Flow.met_none rfl) (fun a W hH => ?_) ?_
  · have e0 := Flow.see_old 8 hH.sees (by kernel_rfl) (by kernel_rfl) rfl
    have e1 := Flow.see_new 31 7 hH.sees (by kernel_rfl) (by kernel_rfl) rfl rfl
    have fa0 : (fun W => Blk W (w.heap.size + 4) 39 (zn)) W := hH.fact _ (List.mem_of_getElem? (i := 0) rfl) rfl
    refine wpList_storeAll W rfl 39 _ _ rfl (w.heap.size + 4) 39 _ (bcells S).toArray fa0 (by simpa [Act.eval] using e0) (by simpa [Act.eval] using e1) (by rw [List.size_toArray, bcells_length, HSl.out]; kernel_rfl) (by rw [List.size_toArray, bcells_length, HSl.out]; kernel_rfl) (fun v hv => bcells_one _ v (by simpa using hv)) ?_
    intro W2 h2 hg _
    exact Flow.qq_nil ⟨_, rfl, Chg.grown hg (by rintro k h; cases h; rfl), h2⟩
  refine Flow.pass_end [none, none, none, none, none, none, none, none, none, none, none, none, none, none, none, none, none, none, none, none, none, none, none, none, some 24, some 25, some 26, some 27, some 28, some 29, some 30, some 31] (by kernel_rfl) ?_
  intro f gg w9 hB9 hfa hT2 hfg
  have h4 := hT2 8 _ (by kernel_rfl) rfl
  have hBw9 := hB.drew.trans (hB9.mono (by omega))
  clear hfa hT2 hfg hB hB9
  simp only [Reg.sel]
  go_wp2
  refine bodyPost_ret (results_cell_row rfl _ _ (w.heap.size + 4) _ _ _ _ rfl h4 Tryz.underlying39 rfl (by rw [List.size_toArray, bcells_length, HSl.out]; kernel_rfl)) rfl ⟨rfl, hBw9⟩
end Go.Proofs.YtipdmhppadapkaaGreatDoor
