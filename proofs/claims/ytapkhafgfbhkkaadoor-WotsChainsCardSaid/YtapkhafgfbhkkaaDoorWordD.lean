/-
  Walks: word.Hex, portreeveref01.Hex: both are the digits `digs`.
-/
import Derived.Test.YtapkhafgfbhkkaaDoorWordC
namespace Go.Proofs.YtapkhafgfbhkkaaDoor
open Go.RowKit

theorem addr_lit (g o k : Nat) : (⟨g, o, none⟩ : Addr).add k = ⟨g, o + k, none⟩ := by unfold Addr.add; split <;> simp_all
theorem Blk.rdAt {w : World} {g : Nat} {t : TypeId} {cs : Array Value} (h : Blk w g t cs) (size off n : Nat) (hn : off + n * size ≤ cs.size) :
    Rd w w.heap.size size (some ⟨g, off, none⟩) n ((cs.toList.drop off).take (n * size)) := by
  refine ⟨by rw [List.length_take, List.length_drop, Array.length_toList]; omega, fun k v hv => ⟨_, rfl, h.lt, ?_⟩⟩
  rw [addr_lit, h.cell]
  rw [List.getElem?_take] at hv
  split at hv
  · rw [List.getElem?_drop] at hv; simpa using hv
  · cases hv

def hexSigns : ByteArray := ⟨#[48, 49, 50, 51, 52, 53, 54, 55, 56, 57, 97, 98, 99, 100, 101, 102]⟩
def hexDig (d : Nat) : UInt8 := hexSigns.data[d]?.getD 0
theorem hexD (d : Nat) (h : d < hexSigns.size) : hexSigns[d]'h = hexDig d := by
  have h' : d < hexSigns.data.size := h
  unfold hexDig
  rw [Array.getElem?_eq_getElem h']; rfl
theorem hexD' (d : Nat) (h : d < 16) : (⟨#[48, 49, 50, 51, 52, 53, 54, 55, 56, 57, 97, 98, 99, 100, 101, 102]⟩ : ByteArray)[d]'h = hexDig d := hexD d h

/-- the j lowest digits to the base 16 -/
def digs (x : Nat) : Nat → List UInt8
  | 0 => []
  | j + 1 => hexDig (x / 16 ^ j % 16) :: digs x j
theorem digs_length (x : Nat) : ∀ j, (digs x j).length = j
  | 0 => rfl
  | j + 1 => by simp [digs, digs_length x j]
/-- so many digits has a number -/
structure HexLen (x J : Nat) : Prop where
  one : 1 ≤ J
  done : x / 16 ^ J = 0
  more : ∀ i, 1 ≤ i → i < J → x / 16 ^ i ≠ 0
theorem HexLen.uniq {x J K : Nat} (h : HexLen x J) (k : HexLen x K) : J = K := by
  rcases Nat.lt_trichotomy J K with h1 | h1 | h1
  · exact absurd h.done (k.more J h.one h1)
  · exact h1
  · exact absurd k.done (h.more K k.one h1)
theorem div_pow_succ (x j : Nat) : x / 16 ^ (j + 1) = x / 16 ^ j / 16 := by rw [Nat.pow_succ, Nat.div_div_eq_div_mul]

theorem hexEnc (d : Nat) (h : d < 16) : Utf8.encode ((hexDig d).toNat : Int) = ⟨#[hexDig d]⟩ := by
  have : ∀ k : Fin 16, Utf8.encode ((hexDig k.1).toNat : Int) = ⟨#[hexDig k.1]⟩ := by decide +kernel
  exact this ⟨d, h⟩

attribute [local irreducible] Utf8.encode
end Go.Proofs.YtapkhafgfbhkkaaDoor
