/-
  Walks: heights and sizes of kinds (xmss.Height, xmss.Size, portreeveref04.Height); portreevelaw08.awake; the statement XmssKinds.
-/
import Derived.Test.YtnjfghlgknnhmaaWordA
namespace Go.Proofs.Ytnjfghlgknnhmaa
open Go.RowKit

def hgt (o : Nat) : Nat := if o = 1 then 10 else if o = 2 then 16 else if o = 3 then 20 else 0
def isKind (o : Nat) : Bool := o == 1 || o == 2 || o == 3
def sigSize (o : Nat) : Nat := if isKind o then 36 + 32 * (67 + hgt o) else 0

theorem mHeight_any (o : Nat) (w : World) : Calls Try.prog 16 #[.int .u32 (o : Nat)] w fun e w' => e = .returned (.tuple #[.int .i64 (hgt o : Nat), .bool (isKind o)]) ∧ w = w' := by
  go_enter Try.func16, Try.ntmps16
  by_cases h1 : o = 1
  · subst h1
    go_wp2
    go_ret2
    exact ⟨rfl, rfl⟩
  by_cases h2 : o = 2
  · subst h2
    go_wp2
    go_ret2
    exact ⟨rfl, rfl⟩
  by_cases h3 : o = 3
  · subst h3
    go_wp2
    go_ret2
    exact ⟨rfl, rfl⟩
  have k1 : (((o : Nat) : Int) == 1) = false := by simp; omega
  have k2 : (((o : Nat) : Int) == 2) = false := by simp; omega
  have k3 : (((o : Nat) : Int) == 3) = false := by simp; omega
  have e1 : hgt o = 0 := by simp [hgt, h1, h2, h3]
  have e2 : isKind o = false := by simp [isKind, h1, h2, h3]
  rw [e1, e2]
  clear h1 h2 h3 e1 e2
  go_wp2
  go_ret2
  exact ⟨rfl, rfl⟩

theorem rHeight_any (o : Nat) (w : World) : Calls Try.prog 17 #[.int .u32 (o : Nat)] w fun e w' => e = .returned (.tuple #[.int .i64 (hgt o : Nat), .bool (isKind o)]) ∧ w = w' := by
  go_enter Try.func17, Try.ntmps17
  by_cases h1 : o = 1
  · subst h1
    go_wp2
    go_ret2
    exact ⟨rfl, rfl⟩
  by_cases h2 : o = 2
  · subst h2
    go_wp2
    go_ret2
    exact ⟨rfl, rfl⟩
  by_cases h3 : o = 3
  · subst h3
    go_wp2
    go_ret2
    exact ⟨rfl, rfl⟩
  have k1 : (((o : Nat) : Int) == 1) = false := by simp; omega
  have k2 : (((o : Nat) : Int) == 2) = false := by simp; omega
  have k3 : (((o : Nat) : Int) == 3) = false := by simp; omega
  have e1 : hgt o = 0 := by simp [hgt, h1, h2, h3]
  have e2 : isKind o = false := by simp [isKind, h1, h2, h3]
  rw [e1, e2]
  clear h1 h2 h3 e1 e2
  go_wp2
  go_ret2
  exact ⟨rfl, rfl⟩

theorem mSize_any (o : Nat) (w : World) : Calls Try.prog 18 #[.int .u32 (o : Nat)] w fun e w' => e = .returned (.tuple #[.int .i64 (sigSize o : Nat), .bool (isKind o)]) ∧ w = w' := by
  go_enter Try.func18, Try.ntmps18
  have hh : hgt o ≤ 20 := by unfold hgt; split <;> (try split) <;> (try split) <;> omega
  go_wp2_with fail
  refine (mHeight_any o w).mono ?_
  rintro e w' ⟨rfl, rfl⟩
  cases hk : isKind o with
  | false =>
    have hz : sigSize o = 0 := by simp [sigSize, hk]
    go_wp2
    go_ret2
    exact ⟨by rw [hk]; exact congrArg (fun x : Int => Ending.returned (.tuple #[.int .i64 x, .bool false])) (show (0 : Int) = (sigSize o : Nat) by rw [hz]; rfl), rfl⟩
  | true =>
    have hz : sigSize o = 36 + 32 * (67 + hgt o) := by simp [sigSize, hk]
    go_wp2
    go_ret2
    exact ⟨by rw [hk]; exact congrArg (fun x : Int => Ending.returned (.tuple #[.int .i64 x, .bool true])) (show (4 : Int) + 32 * (68 + (hgt o : Nat)) = (sigSize o : Nat) by rw [hz]; omega), rfl⟩

theorem size_one : sigSize 1 = 2500 := rfl
theorem zeros_rd {w : World} {g : Nat} (h : Blk w g 5 (bcells (List.replicate 68 0)).toArray) : Rd w w.heap.size 1 (some ⟨g, 0, none⟩) 68 (bcells (List.replicate 68 0)) := by
  have := h.rd (size := 1) (n := 68) (by simp [bcells_length])
  simpa using this

end Go.Proofs.Ytnjfghlgknnhmaa
