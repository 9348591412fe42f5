/-
  The law WotsChains, both ways.
-/
import Derived.Test.YtapkhafgfbhkkaaDoorChX
namespace Go.Proofs.YtapkhafgfbhkkaaDoor
open Go.RowKit Sha

theorem wotsChains_walk (w : World) (hT : Tabs w) (nd : List UInt8) (hnd : nd.length = 32) (f : Int) (_wf : (Lit.int .i64 f).wf = true) (k : Int) (_wk : (Lit.int .i64 k).wf = true) (sd : List UInt8) (hsd : sd.length = 32) (leaf : Int) (wl : (Lit.int .u32 leaf).wf = true) (c : Int) (_wc : (Lit.int .i64 c).wf = true) :
    Calls Tryd.prog 8 #[.agg (bcells nd).toArray, .int .i64 f, .int .i64 k, .agg (bcells sd).toArray, .int .u32 leaf, .int .i64 c] w fun e w' => e = .returned (.bool true) ∧ Below w.heap.size w w' := by
  obtain ⟨lf, hlf, rfl⟩ : ∃ n : Nat, n < 4294967296 ∧ leaf = n := by
    simp [Lit.wf, IntKind.min, IntKind.max, IntKind.bits, IntKind.signed] at wl
    exact ⟨leaf.toNat, by omega, by omega⟩
  by_cases hb : badC f k c
  · exact chains_core w hT nd hnd f k sd hsd lf c znode (Lib.hid (by simp [znode])) (fun W _ => mchain_bad nd sd lf f k c hb W) (fun W => rchain_bad nd sd lf f k c hb W)
  · unfold badC at hb
    obtain ⟨f', rfl⟩ : ∃ n : Nat, f = n := ⟨f.toNat, by omega⟩
    obtain ⟨k', rfl⟩ : ∃ n : Nat, k = n := ⟨k.toNat, by omega⟩
    obtain ⟨c', rfl⟩ : ∃ n : Nat, c = n := ⟨c.toNat, by omega⟩
    exact chains_core w hT nd hnd f' k' sd hsd lf c' _ (Lib.hid (chainN_length sd lf c' f' nd hnd k')) (fun W hW => mchain_any nd sd hnd hsd lf f' k' c' (by omega) (by omega) W hW) (fun W => rchain_any nd sd hnd hsd lf hlf f' k' c' (by omega) (by omega) W)
end Go.Proofs.YtapkhafgfbhkkaaDoor
