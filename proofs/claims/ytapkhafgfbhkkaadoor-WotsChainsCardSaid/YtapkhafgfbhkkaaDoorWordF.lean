/-
  The walks of the statements WordReads, WordPuts, WordBack, WordCats.
-/
import Derived.Test.YtapkhafgfbhkkaaDoorWordE
import Derived.Test.YtapkhafgfbhkkaaDoorRegion
namespace Go.Proofs.YtapkhafgfbhkkaaDoor
open Go.RowKit

theorem putAll_two (x n : Nat) (low : Bool) : putAll [x, x] n low = putNum x n low ++ putNum x n low := by simp [putAll]
theorem putAll_one (x n : Nat) (low : Bool) : putAll [x] n low = putNum x n low := by simp [putAll]

end Go.Proofs.YtapkhafgfbhkkaaDoor
