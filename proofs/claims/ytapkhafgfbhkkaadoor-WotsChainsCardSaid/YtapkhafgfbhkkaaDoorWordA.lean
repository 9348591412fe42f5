/-
  Walks: the numbers that are read (word.size, read, Be32 .. Le64; portreeveref01.Number).
-/
import Derived.Test.YtapkhafgfbhkkaaDoorKit
import Derived.Test.YtapkhafgfbhkkaaDoorNum
namespace Go.Proofs.YtapkhafgfbhkkaaDoor
open Go.RowKit

theorem size64_any (w : World) : Calls Tryd.prog 75 #[] w fun e w' => e = .returned (.int .i64 8) ∧ w = w' := by
  go_enter Tryd.func75, Tryd.ntmps75
  go_wp2
  go_ret
  exact ⟨rfl, rfl⟩
theorem size32_any (w : World) : Calls Tryd.prog 68 #[] w fun e w' => e = .returned (.int .i64 4) ∧ w = w' := by
  go_enter Tryd.func68, Tryd.ntmps68
  go_wp2
  go_ret
  exact ⟨rfl, rfl⟩

section
variable (A : Option Addr) (n c : Nat) (p : Int) (low : Bool) (l : List UInt8) (w : World)

end
end Go.Proofs.YtapkhafgfbhkkaaDoor
