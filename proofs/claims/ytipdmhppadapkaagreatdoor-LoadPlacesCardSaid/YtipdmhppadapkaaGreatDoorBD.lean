/-
  Parts: WordD WordE WordF AdrsA AdrsB PrfG PrfH PrfI.
-/
import Derived.Test.YtipdmhppadapkaaGreatDoorBB
import Derived.Test.YtipdmhppadapkaaGreatDoorBA
import Derived.Test.YtipdmhppadapkaaGreatDoorBC
/-
  Walks: word.Hex, portreeveref01.Hex: both are the digits `digs`.
-/
namespace Go.Proofs.YtipdmhppadapkaaGreatDoor
open Go.RowKit

/-- so many digits has a number -/
structure HexLen (x J : Nat) : Prop where
  one : 1 ≤ J
  done : x / 16 ^ J = 0
  more : ∀ i, 1 ≤ i → i < J → x / 16 ^ i ≠ 0
theorem HexLen.uniq {x J K : Nat} (h : HexLen x J) (k : HexLen x K) : J = K := by
  rcases Nat.lt_trichotomy J K with h1 | h1 | h1
  · exact absurd h.done (k.more J h.one h1)
  · exact h1
  · exact absurd k.done (h.more K k.one h1)
attribute [local irreducible] Utf8.encode
end Go.Proofs.YtipdmhppadapkaaGreatDoor
/-
  Walk: portreevelaw01.awake; the statement WordHexes' walk.
-/
namespace Go.Proofs.YtipdmhppadapkaaGreatDoor
open Go.RowKit

end Go.Proofs.YtipdmhppadapkaaGreatDoor
/-
  The walks of the statements WordReads, WordPuts, WordBack, WordCats.
-/
namespace Go.Proofs.YtipdmhppadapkaaGreatDoor
open Go.RowKit

end Go.Proofs.YtipdmhppadapkaaGreatDoor
/-
  Walks: adrs.of, whole.adrs, Ots, Ltree, Tree, Masked.
-/
namespace Go.Proofs.YtipdmhppadapkaaGreatDoor
open Go.RowKit

structure Ad where
  layer : Nat
  tree : Nat
  kind : Nat
  a : Nat
  b : Nat
  c : Nat
  mask : Nat
  deriving DecidableEq
def Ad.cells (x : Ad) : Array Value := #[.int .u32 x.layer, .int .u64 x.tree, .int .u32 x.kind, .int .u32 x.a, .int .u32 x.b, .int .u32 x.c, .int .u32 x.mask]
structure Ad.ok (x : Ad) : Prop where
  layer : x.layer < 4294967296
  tree : x.tree < 18446744073709551616
  kind : x.kind < 4294967296
  a : x.a < 4294967296
  b : x.b < 4294967296
  c : x.c < 4294967296
  mask : x.mask < 4294967296

section
variable (l t k a b c m : Nat) (w : World)
end
end Go.Proofs.YtipdmhppadapkaaGreatDoor
/-
  Walks: adrs.Bytes, portreeveref04.Bytes: an address as bytes.
-/
namespace Go.Proofs.YtipdmhppadapkaaGreatDoor
open Go.RowKit

def adBytes (l t k a b c m : Nat) : List UInt8 := putNum l 4 false ++ putNum t 8 false ++ putNum k 4 false ++ putNum a 4 false ++ putNum b 4 false ++ putNum c 4 false ++ putNum m 4 false
section
variable (l t k a b c m : Nat) (w : World)
end
end Go.Proofs.YtipdmhppadapkaaGreatDoor
/-
  Walks: prf.Prf, portreeveref04.Prf.
-/
namespace Go.Proofs.YtipdmhppadapkaaGreatDoor
open Go.RowKit Sha

def Ad.bytes (x : Ad) : List UInt8 := adBytes x.layer x.tree x.kind x.a x.b x.c x.mask
def prfH (k : List UInt8) (x : Ad) : List UInt8 := keyed 3 (k ++ x.bytes)
theorem Ad.one (x : Ad) : ∀ v ∈ x.cells.toList, v.oneCell' = true := by
  intro v hv; simp [Ad.cells] at hv; rcases hv with rfl | rfl | rfl | rfl | rfl | rfl | rfl <;> rfl
theorem Ad.size (x : Ad) : x.cells.size = 7 := rfl
end Go.Proofs.YtipdmhppadapkaaGreatDoor
/-
  Walks: prf.Rand and what it makes.
-/
namespace Go.Proofs.YtipdmhppadapkaaGreatDoor
open Go.RowKit Sha

def Ad.withMask (x : Ad) (q : Nat) : Ad := ⟨x.layer, x.tree, x.kind, x.a, x.b, x.c, q⟩
/-- two nodes joined -/
def randH (l r seed : List UInt8) (x : Ad) : List UInt8 := hH2 (prfH seed (x.withMask 0)) (xorL l (prfH seed (x.withMask 1))) (xorL r (prfH seed (x.withMask 2)))
end Go.Proofs.YtipdmhppadapkaaGreatDoor
/-
  Walk: portreeveref04.Rand.
-/
namespace Go.Proofs.YtipdmhppadapkaaGreatDoor
open Go.RowKit Sha

/-- the reference's blocks while it joins two nodes -/
structure RR (w : World) (l r sd : List UInt8) (x : Ad) (wr : World) : Prop where
  l : Blk wr w.heap.size 39 (bcells l).toArray
  r : Blk wr (w.heap.size + 1) 39 (bcells r).toArray
  sd : Blk wr (w.heap.size + 2) 39 (bcells sd).toArray
  x : Blk wr (w.heap.size + 3) 162 x.cells
  n : Blk wr (w.heap.size + 4) 39 zn
  B : Below w.heap.size w wr
namespace RR
variable {w wr : World} {l r sd : List UInt8} {x : Ad}
theorem lt (h : RR w l r sd x wr) : w.heap.size + 4 < wr.heap.size := h.n.lt
theorem ext (h : RR w l r sd x wr) {w' : World} (e : Ext wr w') : RR w l r sd x w' := ⟨h.l.ext e, h.r.ext e, h.sd.ext e, h.x.ext e, h.n.ext e, h.B.trans (e.below h.B.size)⟩
theorem chg (h : RR w l r sd x wr) {w' : World} {g : Nat} (c : Chg (fun b => b = g) wr w') (hg : w.heap.size + 4 < g) : RR w l r sd x w' :=
  ⟨h.l.chg c (show ¬ _ = g by omega), h.r.chg c (show ¬ _ = g by omega), h.sd.chg c (show ¬ _ = g by omega), h.x.chg c (show ¬ _ = g by omega), h.n.chg c (show ¬ _ = g by omega), h.B.trans (c.below (fun b hb => by have hb : b = g := hb; omega) h.B.size)⟩
end RR

end Go.Proofs.YtipdmhppadapkaaGreatDoor
