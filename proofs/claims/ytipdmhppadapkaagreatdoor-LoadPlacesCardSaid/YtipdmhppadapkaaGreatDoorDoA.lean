/-
  Plain: both memories side by side, before and behind a deed.
-/
import Derived.Test.YtipdmhppadapkaaGreatDoorBW
import Derived.Test.YtipdmhppadapkaaGreatDoorBV
namespace Go.Proofs.YtipdmhppadapkaaGreatDoor
open Go.RowKit

structure Two (w : World) (p r : Nat) (ram : Sp) (m : Mm) (F G : Nat → Prop) (N : Nat) : Prop where
  pm : PMem w p ram m F N
  rm : RMem w r ram m G N
  dis : ∀ b, F b → ¬ G b
namespace Two
variable {w w' w1 w2 : World} {p r : Nat} {ram : Sp} {m m' : Mm} {F G : Nat → Prop} {N N' : Nat}
theorem below (h : Two w p r ram m F G N) {n : Nat} (c : Below n w w') (hn : w.heap.size ≤ n) : Two w' p r ram m F G N := ⟨h.pm.below c hn, h.rm.below c hn, h.dis⟩
theorem more (h : Two w p r ram m F G N) (hN : N ≤ N') : Two w p r ram m F G N' := ⟨h.pm.more hN, h.rm.more hN, h.dis⟩
end Two
/-- what a deed leaves -/
def DoAfter (w w' : World) (p r : Nat) (ram : Sp) (m : Mm) (F G : Nat → Prop) (N : Nat) : Prop :=
  ∃ F' G', Two w' p r ram m F' G' N ∧ Chg (fun b => F b ∨ G b) w w' ∧ (∀ b, F' b → F b ∨ w.heap.size ≤ b) ∧ ∀ b, G' b → G b ∨ w.heap.size ≤ b
theorem DoAfter.same {w w' : World} {p r : Nat} {ram : Sp} {m : Mm} {F G : Nat → Prop} {N : Nat} (h : Two w p r ram m F G N) (c : Below w.heap.size w w') : DoAfter w w' p r ram m F G N :=
  ⟨F, G, h.below c (Nat.le_refl _), Chg.of_ext c, fun _ h => .inl h, fun _ h => .inl h⟩
/-- the program's memory has changed: the reference's stays as it was -/
theorem two_p {w w1 : World} {p r : Nat} {ram : Sp} {m m' : Mm} {F G : Nat → Prop} {N N' : Nat} (h : Two w p r ram m F G N) (ha : MAfter w w1 p ram m' F N') :
    RMem w1 r ram m G N ∧ ∃ F1, PMem w1 p ram m' F1 N' ∧ (∀ b, F1 b → ¬ G b) ∧ Chg F w w1 ∧ ∀ b, F1 b → F b ∨ w.heap.size ≤ b := by
  obtain ⟨F1, h1, h2, _, h4⟩ := ha
  refine ⟨h.rm.keep h2.size (fun b hb hl => h2.block b hl (fun hF => h.dis b hF hb)), F1, h1, fun b hF hG => ?_, h2, h4⟩
  rcases h4 b hF with h5 | h5
  · exact h.dis b h5 hG
  · exact absurd (h.rm.flt b hG) (Nat.not_lt.2 h5)
/-- .. and then the reference's -/
theorem two_r {w w1 w2 : World} {p r : Nat} {ram : Sp} {m' : Mm} {F G F1 : Nat → Prop} {N' : Nat} (h1 : PMem w1 p ram m' F1 N') (hd : ∀ b, F1 b → ¬ G b) (hc : Chg F w w1) (hF : ∀ b, F1 b → F b ∨ w.heap.size ≤ b) (hr : RAfter w1 w2 r ram m' G N') :
    DoAfter w w2 p r ram m' F G N' := by
  obtain ⟨G2, h3, h4, _, h6⟩ := hr
  refine ⟨F1, G2, ⟨h1.keep h4.size (fun b hb hl => h4.block b hl (hd b hb)), h3, fun b hb hG => ?_⟩, (hc.mono fun _ h => .inl h).trans (h4.mono fun _ h => .inr h), hF, fun b hb => ?_⟩
  · rcases h6 b hG with h7 | h7
    · exact hd b hb h7
    · exact absurd (h1.flt b hb) (Nat.not_lt.2 h7)
  · rcases h6 b hb with h7 | h7
    · exact .inl h7
    · exact .inr (Nat.le_trans hc.size h7)
theorem DoAfter.from {w w1 w2 : World} {p r : Nat} {ram : Sp} {m : Mm} {F G : Nat → Prop} {N : Nat} (hB : Below w.heap.size w w1) (h : DoAfter w1 w2 p r ram m F G N) : DoAfter w w2 p r ram m F G N := by
  obtain ⟨F', G', h1, h2, h3, h4⟩ := h
  exact ⟨F', G', h1, chg_tr (Chg.of_ext hB) h2 (fun _ _ h => h), fun b hb => (h3 b hb).imp id (Nat.le_trans hB.size), fun b hb => (h4 b hb).imp id (Nat.le_trans hB.size)⟩
theorem DoAfter.more {w w1 : World} {p r : Nat} {ram : Sp} {m : Mm} {F G : Nat → Prop} {N N' : Nat} (h : DoAfter w w1 p r ram m F G N) (hN : N ≤ N') : DoAfter w w1 p r ram m F G N' := by
  obtain ⟨F', G', h1, h2⟩ := h
  exact ⟨F', G', h1.more hN, h2⟩
theorem Two.ext {w w' : World} {p r : Nat} {ram : Sp} {m : Mm} {F G : Nat → Prop} {N : Nat} (h : Two w p r ram m F G N) (c : Ext w w') : Two w' p r ram m F G N :=
  ⟨h.pm.keep c.size (fun b _ hl => c.block b hl), h.rm.keep c.size (fun b _ hl => c.block b hl), h.dis⟩
namespace Flow
open Reg
end Flow
end Go.Proofs.YtipdmhppadapkaaGreatDoor
