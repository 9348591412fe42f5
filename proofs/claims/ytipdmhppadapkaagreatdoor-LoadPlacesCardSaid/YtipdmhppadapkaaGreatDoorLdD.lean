/-
  Walks: the closures of load.Check.
-/
import Derived.Test.YtipdmhppadapkaaGreatDoorLdC
namespace Go.Proofs.YtipdmhppadapkaaGreatDoor
open Go.RowKit Sha

set_option maxRecDepth 100000 in
theorem c1_any (v x y f : Nat) (l : List UInt8) (hl5 : l.length ≤ 1000000) (g : Gu) (w : World) (ok : g.ok w w.heap.size) (hv : Blk w v 80 #[.pointer (some ⟨x, 0, none⟩)]) (hy : Blk w y 43 #[.pointer (some ⟨f, 0, none⟩)])
    (hL : Lk w x g zhd (.slice none 0 0) (.slice none 0 0) (.slice none 0 0)) (hF : FL w f l) :
    Calls Tryz.prog 28 #[.pointer (some ⟨v, 0, none⟩), .pointer (some ⟨y, 0, none⟩)] w (LSpl w x l g) := by
  have cv : w.cell? ⟨v, 0, none⟩ = some (.pointer (some ⟨x, 0, none⟩)) := (hv.cell 0).trans rfl
  have cy : w.cell? ⟨y, 0, none⟩ = some (.pointer (some ⟨f, 0, none⟩)) := (hy.cell 0).trans rfl
  have hs := lsplit_any x f l hl5 g w ok hL hF
  obtain ⟨R, hR⟩ : ∃ R, LSpl w x l g = R := ⟨_, rfl⟩
  obtain ⟨E, hE⟩ : ∃ E, e0 l g = E := ⟨_, rfl⟩
  have hRr : ∀ e w', R e w' → e = .returned (.int .i64 E) := fun e w' h => by rw [← hR] at h; rw [← hE]; exact h.1
  rw [hR] at hs ⊢
  clear hL hF hv hy ok hR hE
  go_enter Tryz.func28, Tryz.ntmps28
  go_wp2_with fail
  refine Calls.mono hs ?_
  intro e w1 h1
  obtain rfl := hRr e w1 h1
  go_wp2
  exact h1

variable {w : World} {v x : Nat} {g : Gu} {h : Hd}
end Go.Proofs.YtipdmhppadapkaaGreatDoor
