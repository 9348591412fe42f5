/-
  Walks: xmss.KeyOf of bytes without a kind; portreevelaw08.awake.
-/
import Derived.Test.YtnjfghlgknnhmaaXmssA
import Derived.Test.YtnjfghlgknnhmaaStore
namespace Go.Proofs.Ytnjfghlgknnhmaa
open Go.RowKit

theorem elb : Elem Try.prog 27 5 (.int .u8 0) 1 1 := Elem.of (by kernel_rfl) (by kernel_rfl) rfl (by omega)
theorem keyOne : Try.zeroCells41.all (·.oneCell') = true := by kernel_rfl
theorem results_cell_tmp {P : Program} {fn : Func} {p q : Tmp} {ty : TypeId} (h : fn.results = #[.cell p ty, .tmp q]) (tmps : Array Value) (w : World) (g : Nat) (t : TypeId) (cs : Array Value) (fr : Nat × Nat) (d : TypeDesc)
    (hp : tmps.getD p undef = .pointer (some ⟨g, 0, none⟩)) (hg : w.heap[g]? = some (.cells cs t fr))
    (hu : P.underlying ty = some d) (hd : (match d with | .struct _ | .array _ _ => true | _ => false) = true) (hi : (P.info? ty).map (·.size) = some cs.size) :
    (results fn tmps).run P w = .ok (.tuple #[.agg cs, tmps.getD q undef]) w := by
  have hp' : tmps[p]?.getD undef = .pointer (some ⟨g, 0, none⟩) := by simpa using hp
  simp [results, h, hp', asAddr, run_loadVar_row w g t ty cs fr d hg hu hd hi]

set_option maxRecDepth 100000 in
set_option maxHeartbeats 1000000 in
theorem mKeyOf_none (A : Option Addr) (n c : Nat) (l : List UInt8) (w : World) (h : Rd w w.heap.size 1 A n (bcells l)) (hn : n ≤ 1000000) (hk : isKind (rdNum l 0 4 false) = false) :
    Calls Try.prog 22 #[.slice A n c] w fun e w' => e = .returned (.tuple #[.agg Try.zeroCells41, .int .i64 80]) ∧ Below w.heap.size w w' := by
  go_enter Try.func22, Try.ntmps22
  go_wp2_with fail
  have B1 : Below w.heap.size w (w.alloc (.cells Try.zeroCells41 41)) := (Below.refl _ w).alloc (Nat.le_refl _) _
  have h1 : Rd (w.alloc (.cells Try.zeroCells41 41)) (w.alloc (.cells Try.zeroCells41 41)).heap.size 1 A n (bcells l) := (h.alloc (Nat.le_refl _) _).more (by simp)
  have hb := Blk.new w 41 Try.zeroCells41
  generalize w.alloc (.cells Try.zeroCells41 41) = W at *
  refine (be32_any A n c 0 l W h1 (by omega)).mono ?_
  rintro e w' ⟨rfl, rfl⟩
  go_wp2_with fail
  refine (mHeight_any (rdNum l 0 4 false) W).mono ?_
  rintro e w' ⟨rfl, rfl⟩
  rw [hk]
  have hzl : Try.zeroCells41.size = 65 := by kernel_rfl
  go_wp2_with ((with_reducible refine at_store 41 ?_); refine wpList_storeAll W rfl 41 _ _ rfl w.heap.size 41 _ Try.zeroCells41 hb rfl rfl rfl (by rw [hzl]; kernel_rfl) (fun v hv => Array.all_eq_true_iff_forall_mem.1 keyOne v (by simpa using hv)) ?_; intro w3 hb3 hg3 hs3)
  all_goals
    refine bodyPost_ret (results_cell_tmp rfl _ _ w.heap.size _ _ _ _ rfl hb3 Try.underlying41 rfl (by rw [hzl]; kernel_rfl)) rfl ⟨rfl, ?_⟩
    exact grown_below B1 hg3 B1.size (Nat.le_refl _)

set_option maxRecDepth 100000 in
set_option maxHeartbeats 1000000 in
theorem awake08 (w : World) : Calls Try.prog 15 #[] w fun e w' => e = .returned (.bool true) ∧ Below w.heap.size w w' := by
  go_enter Try.func15, Try.ntmps15
  go_wp2_with fail
  refine (mSize_any 1 w).mono ?_
  rintro e w' ⟨rfl, rfl⟩
  rw [size_one, show isKind 1 = true from rfl]
  go_wp2_with (at_make; refine wpList_makeN w elb rfl _ _ rfl .i64 .i64 _ _ 68 68 rfl rfl rfl rfl (by omega) (by omega) (by omega) ?_; intro w1 hb1 hs1 hB1)
  have hmc : madeCells (Value.int .u8 0).cells (68 * 1) = (bcells (List.replicate 68 0)).toArray := by kernel_rfl
  rw [hmc] at hb1
  refine (mKeyOf_none _ 68 68 (List.replicate 68 0) w1 (zeros_rd hb1) (by omega) (by kernel_rfl)).mono ?_
  rintro e w2 ⟨rfl, hB2⟩
  have B2 := hB1.trans (hB2.mono hB1.size)
  have hzl : Try.zeroCells41.size = 65 := by kernel_rfl
  go_wp2_with ((with_reducible refine at_store 41 ?_); refine wpList_storeAll _ rfl 41 _ _ rfl w2.heap.size 41 _ Try.zeroCells41 (Blk.new w2 41 Try.zeroCells41) rfl rfl rfl (by rw [hzl]; kernel_rfl) (fun v hv => Array.all_eq_true_iff_forall_mem.1 keyOne v (by simpa using hv)) ?_; intro w3 hb3 hg3 hs3)
  go_ret
  exact ⟨rfl, grown_below (B2.alloc B2.size _) hg3 (by simp; have := B2.size; omega) B2.size⟩
end Go.Proofs.Ytnjfghlgknnhmaa
