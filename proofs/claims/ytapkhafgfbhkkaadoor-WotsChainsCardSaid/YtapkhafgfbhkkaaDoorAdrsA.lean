/-
  Walks: adrs.of, whole.adrs, Ots, Ltree, Tree, Masked.
-/
import Derived.Test.YtapkhafgfbhkkaaDoorWordF
import Derived.Test.YtapkhafgfbhkkaaDoorStore
namespace Go.Proofs.YtapkhafgfbhkkaaDoor
open Go.RowKit

structure Ad where
  layer : Nat
  tree : Nat
  kind : Nat
  a : Nat
  b : Nat
  c : Nat
  mask : Nat
  deriving DecidableEq
def Ad.cells (x : Ad) : Array Value := #[.int .u32 x.layer, .int .u64 x.tree, .int .u32 x.kind, .int .u32 x.a, .int .u32 x.b, .int .u32 x.c, .int .u32 x.mask]
structure Ad.ok (x : Ad) : Prop where
  layer : x.layer < 4294967296
  tree : x.tree < 18446744073709551616
  kind : x.kind < 4294967296
  a : x.a < 4294967296
  b : x.b < 4294967296
  c : x.c < 4294967296
  mask : x.mask < 4294967296

section
variable (l t k a b c m : Nat) (w : World)
theorem infAdrs : (Tryd.prog.info? 40).map (·.size) = some 7 := by kernel_rfl
set_option maxHeartbeats 400000 in
theorem aof_any : Calls Tryd.prog 62 #[.agg #[.int .u32 l, .int .u64 t, .int .u32 k, .int .u32 a, .int .u32 b, .int .u32 c, .int .u32 m]] w fun e w' => e = .returned (.agg #[.int .u32 l, .int .u64 t, .int .u32 k, .int .u32 a, .int .u32 b, .int .u32 c, .int .u32 m]) ∧ Below w.heap.size w w' := by
  go_enter Tryd.func62, Tryd.ntmps62
  go_wp2
  refine bodyPost_ret (v := .agg #[.int .u32 l, .int .u64 t, .int .u32 k, .int .u32 a, .int .u32 b, .int .u32 c, .int .u32 m]) (by simp [results, Tryd.results62, go_sem]) rfl ⟨rfl, ?_⟩
  exact ((Below.refl _ _).alloc (Nat.le_refl _) _).alloc (by simp) _
set_option maxHeartbeats 400000 in
theorem awhole_any : Calls Tryd.prog 65 #[.agg #[.int .u32 l, .int .u64 t, .int .u32 k, .int .u32 a, .int .u32 b, .int .u32 c, .int .u32 m]] w fun e w' => e = .returned (.agg #[.int .u32 l, .int .u64 t, .int .u32 k, .int .u32 a, .int .u32 b, .int .u32 c, .int .u32 m]) ∧ Below w.heap.size w w' := by
  go_enter Tryd.func65, Tryd.ntmps65
  go_wp2
  refine bodyPost_ret (v := .agg #[.int .u32 l, .int .u64 t, .int .u32 k, .int .u32 a, .int .u32 b, .int .u32 c, .int .u32 m]) (by simp [results, Tryd.results65, go_sem]) rfl ⟨rfl, ?_⟩
  exact ((Below.refl _ _).alloc (Nat.le_refl _) _).alloc (by simp) _
set_option maxHeartbeats 400000 in
theorem ots_any : Calls Tryd.prog 50 #[.int .u32 a, .int .u32 b, .int .u32 c] w fun e w' => e = .returned (.agg #[.int .u32 0, .int .u64 0, .int .u32 0, .int .u32 a, .int .u32 b, .int .u32 c, .int .u32 0]) ∧ Below w.heap.size w w' := by
  go_enter Tryd.func50, Tryd.ntmps50
  go_wp2_with (first
    | (go_at_call 65; refine (awhole_any 0 0 0 a b c 0 _).mono ?_; rintro e w1 ⟨rfl, hB⟩; have hb1 := (Blk.new w 40 #[.int .u32 0, .int .u64 0, .int .u32 0, .int .u32 0, .int .u32 0, .int .u32 0, .int .u32 0]).below hB (by simp))
    | (refine wpList_storeAll w1 rfl 40 _ _ rfl w.heap.size _ _ _ hb1 rfl rfl rfl infAdrs (by simp [Value.oneCell']) ?_; intro w2 hb2 hg2 hs2))
  refine bodyPost_ret (results_cell_row rfl _ _ w.heap.size _ _ _ _ rfl hb2 Tryd.underlying40 rfl infAdrs) rfl ⟨rfl, ?_⟩
  exact grown_below (((Below.refl _ _).alloc (Nat.le_refl _) _).trans (hB.mono (by simp))) hg2 (by have := hB.size; simp at this; omega) (Nat.le_refl _)
set_option maxHeartbeats 400000 in
theorem masked_any (q : Nat) : Calls Tryd.prog 48 #[.agg #[.int .u32 l, .int .u64 t, .int .u32 k, .int .u32 a, .int .u32 b, .int .u32 c, .int .u32 m], .int .u32 q] w fun e w' => e = .returned (.agg #[.int .u32 l, .int .u64 t, .int .u32 k, .int .u32 a, .int .u32 b, .int .u32 c, .int .u32 q]) ∧ Below w.heap.size w w' := by
  go_enter Tryd.func48, Tryd.ntmps48
  go_wp2
  refine bodyPost_ret (v := .agg #[.int .u32 l, .int .u64 t, .int .u32 k, .int .u32 a, .int .u32 b, .int .u32 c, .int .u32 q]) (by simp [results, Tryd.results48, go_sem]) rfl ⟨rfl, ?_⟩
  exact ((Below.refl _ _).alloc (Nat.le_refl _) _).alloc (by simp) _
end
end Go.Proofs.YtapkhafgfbhkkaaDoor
