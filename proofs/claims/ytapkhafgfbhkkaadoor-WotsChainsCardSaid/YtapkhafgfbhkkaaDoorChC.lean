/-
  Walk: wots.Chain, the inputs that it refuses; portreeveref04.Chain.
-/
import Derived.Test.YtapkhafgfbhkkaaDoorChB
namespace Go.Proofs.YtapkhafgfbhkkaaDoor
open Go.RowKit Sha

/-- the inputs that a chain refuses -/
def badC (f k c : Int) : Prop := f < 0 ∨ k < 0 ∨ 15 < f ∨ 15 - f < k ∨ c < 0 ∨ 66 < c

set_option maxRecDepth 100000 in
set_option maxHeartbeats 4000000 in
theorem mchain_bad (nd sd : List UInt8) (leaf : Int) (f k c : Int) (hbad : badC f k c) (w : World) :
    Calls Tryd.prog 30 #[.agg (bcells nd).toArray, .int .i64 f, .int .i64 k, .agg (bcells sd).toArray, .int .u32 leaf, .int .i64 c] w fun e w' =>
      e = .returned (.agg zn) ∧ Below w.heap.size w w' := by
  have hz := zeroNode
  have hN := blk_new2 w (.cells (bcells nd).toArray 27) (.cells (bcells sd).toArray 27) 27 zn
  have hBw0 : Below w.heap.size w (((w.alloc (.cells (bcells nd).toArray 27)).alloc (.cells (bcells sd).toArray 27)).alloc (.cells zn 27)) := (((Below.refl _ _).alloc (Nat.le_refl _) _).alloc (by simp) _).alloc (by simp; omega) _
  have hzs : Hid (zn.size = 32) := Lib.hid (by kernel_rfl)
  have hone : Hid (∀ v ∈ zn.toList, v.oneCell' = true) := Lib.hid (fun v hv => bcells_one znode v (by simpa [zn] using hv))
  unfold badC at hbad
  by_cases a1 : f < 0
  case' neg => by_cases a2 : k < 0
  case' neg => by_cases a3 : 15 < f
  case' neg =>
    have hsub : IntKind.i64.wrap (15 - f) = 15 - f := by rw [IntKind.wrap_i64]; omega
    by_cases a4 : 15 - f < k
  case' neg => by_cases a5 : c < 0
  case' neg => have a6 : 67 ≤ c := by omega
  all_goals
    clear hbad
    go_enter Tryd.func30, Tryd.ntmps30
    go_wp2_with ((with_reducible refine at_store 27 ?_); refine wpList_storeAll _ rfl 27 _ _ rfl (w.heap.size + 2) 27 _ zn hN rfl rfl rfl (by rw [hzs.out]; exact infNode) hone.out ?_; intro w5 h5 hg5 hs5)
    refine bodyPost_ret (results_cell_row rfl _ _ (w.heap.size + 2) _ _ _ _ rfl h5 Tryd.underlying27 rfl (by rw [hzs.out]; exact infNode)) rfl ⟨rfl, ?_⟩
    exact grown_below hBw0 hg5 hBw0.size (by omega)
end Go.Proofs.YtapkhafgfbhkkaaDoor
