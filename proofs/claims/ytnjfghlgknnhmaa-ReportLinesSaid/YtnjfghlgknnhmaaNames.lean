/-
  Walks: the tables of the errors' names.
-/
import Derived.Test.YtnjfghlgknnhmaaDec
import Derived.Test.YtnjfghlgknnhmaaBuild
import Derived.Great.Walk
namespace Go.Proofs.Ytnjfghlgknnhmaa
open Go.RowKit

/-- the errors' numbers and names -/
def nameTab : List (Nat × List UInt8) :=
  [(0, [111, 107]), (1, [114, 97, 110, 103, 101]), (2, [108, 111, 110, 103]), (3, [110, 111, 110, 101]), (80, [107, 101, 121]), (81, [115, 105, 103]), (82, [118, 101, 114, 105, 102, 121]), (90, [98, 117, 115]), (100, [112, 111, 119, 101, 114]), (110, [102, 114, 97, 109, 101, 115]), (120, [115, 108, 111, 116]), (130, [108, 111, 115, 116]), (131, [102, 117, 108, 108]), (132, [98, 97, 99, 107]), (140, [109, 97, 103, 105, 99]), (141, [115, 104, 111, 114, 116]), (142, [99, 111, 117, 110, 116]), (143, [116, 101, 120, 116]), (144, [102, 105, 101, 108, 100]), (145, [116, 114, 97, 105, 108]), (150, [105, 109, 97, 103, 101]), (151, [102, 108, 97, 115, 104]), (160, [114, 111, 111, 109]), (170, [118, 97, 108, 105, 100]), (180, [100, 101, 115, 99]), (190, [109, 97, 112]), (200, [97, 100, 100, 114, 101, 115, 115]), (201, [116, 114, 97, 110, 115, 108, 97, 116, 101]), (202, [97, 99, 99, 101, 115, 115]), (210, [118, 109, 105, 100]), (220, [105, 114, 113]), (230, [115, 116, 114, 101, 97, 109]), (240, [102, 100, 116]), (250, [108, 111, 103]), (260, [111, 108, 100]), (261, [119, 105, 100, 101]), (262, [110, 97, 109, 101]), (263, [99, 111, 117, 110, 116, 101, 114]), (270, [109, 97, 110, 100, 97, 116, 111, 114, 121]), (271, [109, 97, 110, 105, 102, 101, 115, 116]), (280, [102, 108, 97, 115, 104, 104, 101, 97, 100]), (281, [99, 111, 110, 102, 105, 103, 111, 108, 100]), (282, [98, 111, 97, 114, 100]), (300, [112, 101, 114, 109]), (310, [108, 105, 110, 101]), (340, [99, 111, 108, 111, 114]), (350, [116, 114, 97, 112]), (360, [114, 105, 110, 103])]
theorem size_alloc1 (w : World) (o : Obj) : (w.alloc o).heap.size = w.heap.size + 1 := by simp
theorem new1 (w : World) (o : Obj) (t : TypeId) (cs : Array Value) : Blk ((w.alloc o).alloc (.cells cs t)) (w.heap.size + 1) t cs := by
  have := Blk.new (w.alloc o) t cs
  rw [size_alloc1] at this; exact this
def strV (s : List UInt8) : Value := .string ⟨s.toArray⟩
def namedCells : Array Value := (nameTab.flatMap fun x => [.int .i64 x.1, strV x.2]).toArray
def numCells : Array Value := (nameTab.map fun x => .int .i64 x.1).toArray
def strCells : Array Value := (nameTab.map fun x => strV x.2).toArray

set_option maxRecDepth 100000 in
set_option maxHeartbeats 2000000 in
theorem names_any (w : World) :
    Calls Try.prog 70 #[] w fun e w' => e = .returned (.tuple #[.slice (some ⟨w.heap.size, 0, none⟩) 48 48, .slice (some ⟨w.heap.size + 1, 0, none⟩) 48 48]) ∧ Blk w' w.heap.size 3 numCells ∧ Blk w' (w.heap.size + 1) 9 strCells ∧ Below w.heap.size w w' := by
  go_enter Try.func70, Try.ntmps70
  go_wp2_with first
    | ((with_reducible refine at_buildSlice 141 ?_); refine Great.wpList_buildSliceTo rfl 141 3 48 _ rfl _ rfl _ rfl Try.underlying141 numCells (by kernel_rfl) ?_)
    | ((with_reducible refine at_buildSlice 80 ?_); refine Great.wpList_buildSliceTo rfl 80 9 48 _ rfl _ rfl _ rfl Try.underlying80 strCells (by kernel_rfl) ?_)
  go_ret2
  refine ⟨rfl, (Blk.new _ _ _).alloc _, ?_, ((Below.refl _ _).alloc (Nat.le_refl _) _).alloc (by rw [size_alloc1]; omega) _⟩
  exact new1 _ _ _ _

set_option maxRecDepth 100000 in
set_option maxHeartbeats 4000000 in
theorem named_any (w : World) :
    Calls Try.prog 69 #[] w fun e w' => e = .returned (.slice (some ⟨w.heap.size, 0, none⟩) 48 48) ∧ Blk w' w.heap.size 140 namedCells ∧ Below w.heap.size w w' := by
  go_enter Try.func69, Try.ntmps69
  go_wp2_with ((with_reducible refine at_buildSlice 137 ?_); refine Great.wpList_buildSliceTo rfl 137 140 48 _ rfl _ rfl _ rfl Try.underlying137 namedCells (by kernel_rfl) ?_)
  go_ret
  exact ⟨rfl, Blk.new _ _ _, (Below.refl _ _).alloc (Nat.le_refl _) _⟩
end Go.Proofs.Ytnjfghlgknnhmaa
