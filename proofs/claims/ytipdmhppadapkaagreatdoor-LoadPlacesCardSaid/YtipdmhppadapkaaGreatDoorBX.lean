/-
  Parts: XmssA XmssB XmssC XmssD XmssE XmssF EqS XmssG XmssH SigA SigB SigC SigD SigE SigF SigG SigH Num2 SigI.
-/
import Derived.Test.YtipdmhppadapkaaGreatDoorBB
import Derived.Test.YtipdmhppadapkaaGreatDoorBA
import Derived.DeepKeys
import Derived.Deep.Cut
/-
  Walks: heights and sizes of kinds (xmss.Height, xmss.Size, portreeveref04.Height); portreevelaw08.awake; the statement XmssKinds.
-/
namespace Go.Proofs.YtipdmhppadapkaaGreatDoor
open Go.RowKit

def hgt (o : Nat) : Nat := if o = 1 then 10 else if o = 2 then 16 else if o = 3 then 20 else 0
def isKind (o : Nat) : Bool := o == 1 || o == 2 || o == 3
def sigSize (o : Nat) : Nat := if isKind o then 36 + 32 * (67 + hgt o) else 0

theorem mHeight_any (o : Nat) (w : World) : Calls Tryz.prog 112 #[.int .u32 (o : Nat)] w fun e w' => e = .returned (.tuple #[.int .i64 (hgt o : Nat), .bool (isKind o)]) ∧ w = w' := by
  go_enter Tryz.func112, Tryz.ntmps112
  by_cases h1 : o = 1
  · subst h1
    go_wp2
    go_ret2
    exact ⟨rfl, rfl⟩
  by_cases h2 : o = 2
  · subst h2
    go_wp2
    go_ret2
    exact ⟨rfl, rfl⟩
  by_cases h3 : o = 3
  · subst h3
    go_wp2
    go_ret2
    exact ⟨rfl, rfl⟩
  have k1 : (((o : Nat) : Int) == 1) = false := by simp; omega
  have k2 : (((o : Nat) : Int) == 2) = false := by simp; omega
  have k3 : (((o : Nat) : Int) == 3) = false := by simp; omega
  have e1 : hgt o = 0 := by simp [hgt, h1, h2, h3]
  have e2 : isKind o = false := by simp [isKind, h1, h2, h3]
  rw [e1, e2]
  clear h1 h2 h3 e1 e2
  go_wp2
  go_ret2
  exact ⟨rfl, rfl⟩

theorem mSize_any (o : Nat) (w : World) : Calls Tryz.prog 108 #[.int .u32 (o : Nat)] w fun e w' => e = .returned (.tuple #[.int .i64 (sigSize o : Nat), .bool (isKind o)]) ∧ w = w' := by
  go_enter Tryz.func108, Tryz.ntmps108
  have hh : hgt o ≤ 20 := by unfold hgt; split <;> (try split) <;> (try split) <;> omega
  go_wp2_with fail
  refine (mHeight_any o w).mono ?_
  rintro e w' ⟨rfl, rfl⟩
  cases hk : isKind o with
  | false =>
    have hz : sigSize o = 0 := by simp [sigSize, hk]
    go_wp2
    go_ret2
    exact ⟨by rw [hk]; exact congrArg (fun x : Int => Ending.returned (.tuple #[.int .i64 x, .bool false])) (show (0 : Int) = (sigSize o : Nat) by rw [hz]; rfl), rfl⟩
  | true =>
    have hz : sigSize o = 36 + 32 * (67 + hgt o) := by simp [sigSize, hk]
    go_wp2
    go_ret2
    exact ⟨by rw [hk]; exact congrArg (fun x : Int => Ending.returned (.tuple #[.int .i64 x, .bool true])) (show (4 : Int) + 32 * (68 + (hgt o : Nat)) = (sigSize o : Nat) by rw [hz]; omega), rfl⟩

end Go.Proofs.YtipdmhppadapkaaGreatDoor
/-
  Walks: xmss.KeyOf of bytes without a kind; portreevelaw08.awake.
-/
namespace Go.Proofs.YtipdmhppadapkaaGreatDoor
open Go.RowKit

theorem results_cell_tmp {P : Program} {fn : Func} {p q : Tmp} {ty : TypeId} (h : fn.results = #[.cell p ty, .tmp q]) (tmps : Array Value) (w : World) (g : Nat) (t : TypeId) (cs : Array Value) (fr : Nat × Nat) (d : TypeDesc)
    (hp : tmps.getD p undef = .pointer (some ⟨g, 0, none⟩)) (hg : w.heap[g]? = some (.cells cs t fr))
    (hu : P.underlying ty = some d) (hd : (match d with | .struct _ | .array _ _ => true | _ => false) = true) (hi : (P.info? ty).map (·.size) = some cs.size) :
    (results fn tmps).run P w = .ok (.tuple #[.agg cs, tmps.getD q undef]) w := by
  have hp' : tmps[p]?.getD undef = .pointer (some ⟨g, 0, none⟩) := by simpa using hp
  simp [results, h, hp', asAddr, run_loadVar_row w g t ty cs fr d hg hu hd hi]

end Go.Proofs.YtipdmhppadapkaaGreatDoor
/-
  Walk of the statement XmssKinds.
-/
namespace Go.Proofs.YtipdmhppadapkaaGreatDoor
open Go.RowKit

end Go.Proofs.YtipdmhppadapkaaGreatDoor
/-
  Walks: xmss.cutter and what it hands out; xmss.signed.may.
-/
namespace Go.Proofs.YtipdmhppadapkaaGreatDoor
open Go.RowKit

/-- what a slice is cut to: k bytes less ahead -/
def CutTo (A A' : Option Addr) (n k : Nat) : Prop := ∀ W B xs, Rd W B 1 A n xs → Rd W B 1 A' (n - k) (xs.drop k)
theorem cutTo_on {A : Option Addr} {n k c : Nat} (hk : 0 < k) (hn : n ≤ c) (e : ¬ c = k) : CutTo A (A.map fun x => ⟨x.block, x.off + k, none⟩) n k := fun W B xs h => by
  have := h.cut (k := k) (cap := c) hn
  rw [if_neg e, Nat.mul_one] at this
  have e2 : (fun x : Addr => x.add k) = fun x => ⟨x.block, x.off + k, none⟩ := by
    funext x; unfold Addr.add; rw [if_neg (by omega)]
  rw [e2] at this; exact this

theorem grown_set (w : World) (g i : Nat) (v : Value) : w.grownBy (w.setCell ⟨g, i, none⟩ v) (some g) := ⟨rfl, rfl, rfl, by simp, fun k _ hk => heap_setCell_other w ⟨g, i, none⟩ k v (fun e => hk (by simp [e]))⟩
end Go.Proofs.YtipdmhppadapkaaGreatDoor
/-
  Walks: xmss.KeyOf of any bytes.
-/
namespace Go.Proofs.YtipdmhppadapkaaGreatDoor
open Go.RowKit

theorem reg_loadRd {P : Program} {o : Oper} {a : Act} {w : World} (ty : TypeId) (t : Tmp) (ho : o.op = .load ty (.tmp t)) {A : Option Addr} {B n : Nat} {l : List UInt8} (he : a.tmps[t]?.getD undef = .pointer A)
    (h : Rd w B 1 A n (bcells l)) {d : TypeDesc} (hu : P.underlying ty = some d) (hd : d.isRow = true) (hi : (P.info? ty).map (·.size) = some (bcells l).toArray.size) (hn : 0 < (bcells l).length) :
    (execOp a.eval o).run P w = .ok (.value (.agg (bcells l).toArray)) w := by
  obtain ⟨b, off, rfl, _, hr⟩ := h.range (by rw [← h.len]; exact hn)
  have := run_loadAt_mid (P := P) w b off ty (bcells l) d hr hu hd (by simpa using hi)
  simp [execOp, ho, Act.eval, he, this]

def zeroNode0 : List UInt8 := List.replicate 32 0
def keyOk (l : List UInt8) : Bool := l.length == 68 && isKind (rdNum l 0 4 false)
end Go.Proofs.YtipdmhppadapkaaGreatDoor
/-
  Walks: portreeveref04.KeyOf of any bytes.
-/
namespace Go.Proofs.YtipdmhppadapkaaGreatDoor
open Go.RowKit

theorem Rd.at_ {w : World} {B n : Nat} {A : Option Addr} {l : List UInt8} (h : Rd w B 1 A n (bcells l)) (k m : Nat) (hkm : k + m ≤ n) (hk : 0 < k) :
    Rd w B 1 (A.map fun x => ⟨x.block, x.off + k, none⟩) m (bcells ((l.drop k).take m)) := by
  have h1 := (cutTo_on (A := A) (n := n) (k := k) (c := n + k) hk (by omega) (by omega)) _ _ _ h
  have h2 := h1.front (k := m) (by omega)
  rw [Nat.mul_one] at h2
  simp only [bcells, List.map_take, List.map_drop] at h2 ⊢
  exact h2

end Go.Proofs.YtipdmhppadapkaaGreatDoor
/-
  == on whole values (structs, arrays) by what they read as.
-/
namespace Go.Proofs.YtipdmhppadapkaaGreatDoor
open Go.RowKit
section
variable {P : Program}
end
end Go.Proofs.YtipdmhppadapkaaGreatDoor
/-
  Walks: xmss.PutKey, portreeveref04.PutKey.
-/
namespace Go.Proofs.YtipdmhppadapkaaGreatDoor
open Go.RowKit

theorem run_buildBB (w : World) (A1 : Option Addr) (n1 c1 : Nat) (A2 : Option Addr) (n2 c2 : Nat) (A3 : Option Addr) (n3 c3 : Nat) :
    (Instr.buildSlice 153 3 #[(0, .slice A1 n1 c1), (1, .slice A2 n2 c2), (2, .slice A3 n3 c3)]).run Tryz.prog w = .ok (.slice (some ⟨w.heap.size, 0, none⟩) 3 3) (w.alloc (.cells #[.slice A1 n1 c1, .slice A2 n2 c2, .slice A3 n3 c3] 22)) := by
  go_simp
/-- bytes with an error's number, in memory of the call's own -/
def BytesErr (w : World) (L : List UInt8) (x : Int) (e : Ending) (w' : World) : Prop := ∃ A c, e = .returned (.tuple #[.slice A L.length c, .int .i64 x]) ∧ L.length ≤ c ∧ Rd w' w'.heap.size 1 A L.length (bcells L) ∧ Below w.heap.size w w'
end Go.Proofs.YtipdmhppadapkaaGreatDoor
/-
  Walk of the statement XmssKeys.
-/
namespace Go.Proofs.YtipdmhppadapkaaGreatDoor
open Go.RowKit

end Go.Proofs.YtipdmhppadapkaaGreatDoor
/-
  Walk: xmss.SigOf of bytes of the right length.
-/
namespace Go.Proofs.YtipdmhppadapkaaGreatDoor
open Go.RowKit

structure Sg where
  i : Nat
  r : List UInt8
  ots : List (List UInt8)
  auth : List (List UInt8)
def nodeAt (l : List UInt8) (k : Nat) : List UInt8 := (l.drop (36 + 32 * k)).take 32
def nodesAt (l : List UInt8) (p n : Nat) : List (List UInt8) := (List.range n).map fun k => nodeAt l (p + k)
end Go.Proofs.YtipdmhppadapkaaGreatDoor
/-
  Walk: xmss.SigOf of bytes of the right length: the loops.
-/
namespace Go.Proofs.YtipdmhppadapkaaGreatDoor
open Go.RowKit

end Go.Proofs.YtipdmhppadapkaaGreatDoor
/-
  Walk: portreeveref04.SigOf of bytes of the right length.
-/
namespace Go.Proofs.YtipdmhppadapkaaGreatDoor
open Go.RowKit

end Go.Proofs.YtipdmhppadapkaaGreatDoor
/-
  Walks: SigOf of any bytes, both; portreeveref04.SameNodes and SameSig.
-/
namespace Go.Proofs.YtipdmhppadapkaaGreatDoor
open Go.RowKit

def sigOk (l : List UInt8) (o : Nat) : Bool := isKind o && l.length == 36 + 32 * (67 + hgt o) && decide (rdNum l 0 4 false < 2 ^ hgt o)
def sigVal (l : List UInt8) (o : Nat) : Sg := if sigOk l o then ⟨rdNum l 0 4 false, (l.drop 4).take 32, nodesAt l 0 67, nodesAt l 67 (hgt o)⟩ else ⟨0, zeroNode0, [], []⟩
section
variable (A : Option Addr) (n c0 : Nat) (l : List UInt8) (o : Nat) (w : World)
end

end Go.Proofs.YtipdmhppadapkaaGreatDoor
/-
  Walks: portreeveref04.SameSig.
-/
namespace Go.Proofs.YtipdmhppadapkaaGreatDoor
open Go.RowKit

structure Sg.ok (g : Sg) : Prop where
  i : g.i < 4294967296
  r : g.r.length = 32
  ots : ∀ x ∈ g.ots, x.length = 32
  auth : ∀ x ∈ g.auth, x.length = 32

end Go.Proofs.YtipdmhppadapkaaGreatDoor
/-
  Walk of the statement XmssSigs.
-/
namespace Go.Proofs.YtipdmhppadapkaaGreatDoor
open Go.RowKit

end Go.Proofs.YtipdmhppadapkaaGreatDoor
/-
  Walk: xmss.PutSig.
-/
namespace Go.Proofs.YtipdmhppadapkaaGreatDoor
open Go.RowKit

theorem all_append (a b : List Bs) : Bs.all (a ++ b) = Bs.all a ++ Bs.all b := by simp [Bs.all]

end Go.Proofs.YtipdmhppadapkaaGreatDoor
/-
  Walk: portreeveref04.PutSig; both PutSig of any signature.
-/
namespace Go.Proofs.YtipdmhppadapkaaGreatDoor
open Go.RowKit

/-- bytes of the call's own, as a loop gathers them -/
def Bt (w : World) (B : Nat) (L : List UInt8) (v : Value) (wr : World) : Prop :=
  Below w.heap.size w wr ∧ B ≤ wr.heap.size ∧ ∃ A c, v = .slice A L.length c ∧ wr.ownsRow B 5 1 (.slice A L.length c) L.length (bcells L)
theorem Bt.chg {w wr W : World} {B : Nat} {L : List UInt8} {v : Value} (h : Bt w B L v wr) (c : Chg (fun b => b = wr.heap.size) wr W) : Bt w B L v W := by
  obtain ⟨h1, h2, A, k, rfl, hO⟩ := h
  refine ⟨h1.trans (c.below (n := w.heap.size) (fun j e => by have e2 : j = wr.heap.size := e; have := h1.size; omega) h1.size), Nat.le_trans h2 c.size, A, k, rfl, own_chg hO c fun b hb e => ?_⟩
  have := (own_some hO hb).2
  have e2 : b = wr.heap.size := e
  omega
end Go.Proofs.YtipdmhppadapkaaGreatDoor
/-
  Plain numbers: what is put is read.
-/
namespace Go.Proofs.YtipdmhppadapkaaGreatDoor

end Go.Proofs.YtipdmhppadapkaaGreatDoor
/-
  Both PutSig of any signature; what is put is read; walk of the statement XmssPuts.
-/
namespace Go.Proofs.YtipdmhppadapkaaGreatDoor
open Go.RowKit

section
variable (g : Sg) (ok : g.ok) (o : Nat) (A1 A2 : Option Addr) (d1 d2 : Nat) (w : World) (r1 : Rd w w.heap.size 32 A1 g.ots.length (ncells g.ots)) (r2 : Rd w w.heap.size 32 A2 g.auth.length (ncells g.auth))
include ok r1 r2
end

/-! what is put is read -/
end Go.Proofs.YtipdmhppadapkaaGreatDoor
