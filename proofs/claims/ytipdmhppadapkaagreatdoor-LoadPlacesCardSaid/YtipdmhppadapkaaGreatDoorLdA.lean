/-
  Plain: a guest, its counter, what becomes of its image.
-/
import Derived.Test.YtipdmhppadapkaaGreatDoorXmB
import Derived.Test.YtipdmhppadapkaaGreatDoorBI
import Derived.Test.YtipdmhppadapkaaGreatDoorBM
namespace Go.Proofs.YtipdmhppadapkaaGreatDoor
open Go.RowKit Sha

/-- a counter -/
structure Ctr where
  val : Nat
  err : Int
structure Ctr.ok (c : Ctr) : Prop where
  val : c.val < 4294967296
  err : (Lit.int .i64 c.err).wf = true
def Ctr.cells (c : Ctr) : Array Value := #[.int .u32 (c.val : Int), .int .i64 c.err]
/-- a guest: the sizes of its windows alone are looked at, the rest are values -/
structure Gu where
  name : List UInt8
  mand : Bool
  off : Nat
  len : Nat
  cpus : Nat
  entry : Nat
  dtb : Nat
  key : List UInt8
  wA : Option Addr
  wn : Nat
  wc : Nat
  wsz : Nat
  dev : Value
  irq : Value
  stm : Value
structure Gu.ok (w : World) (B : Nat) (g : Gu) : Prop where
  name : g.name.length ≤ maxLen
  off : g.off < 4294967296
  len : g.len < 4294967296
  key : g.key.length = 68
  win : 0 < g.wn → ∃ b o, g.wA = some ⟨b, o, none⟩ ∧ b < B ∧ w.cell? ⟨b, o + 2, none⟩ = some (.int .u64 (g.wsz : Int))
  wsz : g.wsz < 18446744073709551616
  dev : g.dev.oneCell' = true
  irq : g.irq.oneCell' = true
  stm : g.stm.oneCell' = true
def Gu.cells (g : Gu) : List Value := [.string ⟨g.name.toArray⟩, .bool g.mand, .int .u32 (g.off : Int), .int .u32 (g.len : Int), .int .u32 (g.cpus : Int), .int .u64 (g.entry : Int), .int .u64 (g.dtb : Int)] ++ bcells g.key ++ [.slice g.wA g.wn g.wc, g.dev, g.irq, g.stm]
theorem Gu.cells_length (g : Gu) (h : g.key.length = 68) : g.cells.length = 79 := by simp [Gu.cells, bcells_length, h]
theorem Gu.ok.below {w w' : World} {B B' : Nat} {g : Gu} (h : g.ok w B) (hB : Below B w w') (hl : B ≤ B') : g.ok w' B' :=
  ⟨h.name, h.off, h.len, h.key, fun h0 => by
    obtain ⟨b, o, e, h1, h2⟩ := h.win h0
    exact ⟨b, o, e, Nat.lt_of_lt_of_le h1 hl, (World.cell?_of_block (hB.block b h1)).trans h2⟩, h.wsz, h.dev, h.irq, h.stm⟩

/-- the errors, in order -/
def gOid (g : Gu) : Nat := rdNum g.key 0 4 false
def gReg (l : List UInt8) (g : Gu) : List UInt8 := getV l g.off g.len
def gHd (l : List UInt8) (g : Gu) : Hd := splHd (gReg l g) (gOid g)
def gPay (l : List UInt8) (g : Gu) : List UInt8 := splC (gReg l g) (gOid g)
def e0 (l : List UInt8) (g : Gu) : Int := if getE l g.off g.len ≠ 0 then getE l g.off g.len else splErr (gReg l g) (gOid g)
def e1 (l : List UInt8) (g : Gu) : Int := verErr g.key (splA (gReg l g) (gOid g)) (splB (gReg l g) (gOid g))
def e2 (l : List UInt8) (g : Gu) : Int := if Sha.sum (gPay l g) = (gHd l g).dig then 0 else 150
def e3 (l : List UInt8) (g : Gu) : Int := if (gHd l g).name = g.name then 0 else 262
def e4 (l : List UInt8) (g : Gu) : Int := if 0 < g.wn ∧ (gHd l g).size ≤ g.wsz then 0 else 261
def e5 (c : Ctr) : Int := if c.err = 0 then 0 else 263
def e6 (l : List UInt8) (g : Gu) (c : Ctr) : Int := if c.val ≤ (gHd l g).ver then 0 else 260
def errAt (l : List UInt8) (g : Gu) (c : Ctr) : Nat → Int
  | 0 => e0 l g
  | 1 => e1 l g
  | 2 => e2 l g
  | 3 => e3 l g
  | 4 => e4 l g
  | 5 => e5 c
  | 6 => e6 l g c
  | _ => 0
/-- the first that is not 0 of k errors -/
def firstE (E : Nat → Int) : Nat → Int
  | 0 => 0
  | k + 1 => if firstE E k ≠ 0 then firstE E k else E k
theorem firstE_ok {E : Nat → Int} : ∀ {k : Nat}, firstE E k = 0 → ∀ i, i < k → E i = 0
  | 0, _, i, hi => by omega
  | k + 1, h, i, hi => by
    by_cases h1 : firstE E k = 0
    · rw [firstE, if_neg (by simpa using h1)] at h
      rcases Nat.lt_succ_iff_lt_or_eq.1 hi with h2 | rfl
      · exact firstE_ok h1 i h2
      · exact h
    · rw [firstE, if_pos h1] at h
      exact absurd h h1
theorem firstE_bad {E : Nat → Int} {k : Nat} (h : firstE E k ≠ 0) : ∀ n, k ≤ n → firstE E n = firstE E k
  | 0, hn => by rw [Nat.le_zero.1 hn]
  | n + 1, hn => by
    rcases Nat.lt_or_eq_of_le hn with h1 | rfl
    · rw [firstE, firstE_bad h n (by omega), if_pos h]
    · rfl
def vErr (l : List UInt8) (g : Gu) (c : Ctr) : Int := firstE (errAt l g c) 7
/-- a verdict's cells -/
def vdCells (e : Int) (ver : Nat) (dig : List UInt8) (A : Option Addr) (n c : Nat) : List Value := [.int .i64 e, .int .u32 (ver : Int)] ++ bcells dig ++ [.slice A n c]
end Go.Proofs.YtipdmhppadapkaaGreatDoor
