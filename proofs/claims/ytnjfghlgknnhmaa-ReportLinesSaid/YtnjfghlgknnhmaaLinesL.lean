/-
  A result as an argument; both Lines of any result; the walk of ReportLines.
-/
import Derived.Test.YtnjfghlgknnhmaaLinesK
import Derived.Test.YtnjfghlgknnhmaaLinesC
namespace Go.Proofs.Ytnjfghlgknnhmaa
open Go.RowKit

/-- a result's data -/
structure Rsl where
  x : Int
  y : Int
  z : Int
  A3 : Option Addr
  n3 : Nat
  c3 : Nat
  ctr : List (Nat × Int)
  M : List Value
  ver : Nat
  fr : Int
  D : List UInt8
  A6 : Option Addr
  n6 : Nat
  c6 : Nat
  log : List Rec
  A7 : Option Addr
  n7 : Nat
  c7 : Nat
  gst : List Gst
structure Rsl.Ok (R : Rsl) (C : Array Value) : Prop where
  size : C.size = 75
  hx : inI R.x
  hy : inI R.y
  hz : inI R.z
  h0 : C[0]? = some (.int .i64 R.x)
  h1 : C[1]? = some (.int .i64 R.y)
  h2 : C[2]? = some (.int .i64 R.z)
  h3 : C[3]? = some (.slice R.A3 R.n3 R.c3)
  hM : ∀ j v, R.M[j]? = some v → C[4 + j]? = some v
  hMs : R.M.length = 71
  m0 : R.M[0]? = some (.int .u32 (R.ver : Nat))
  m4 : R.M[4]? = some (.int .i64 R.fr)
  m5 : ∀ j v, (bcells R.D)[j]? = some v → R.M[5 + j]? = some v
  m69 : R.M[69]? = some (.slice R.A6 R.n6 R.c6)
  m70 : R.M[70]? = some (.slice R.A7 R.n7 R.c7)
  hD : R.D.length = 64
  hver : R.ver < 4294967296
  hfr : inI R.fr
  ctrL : R.ctr.length = R.n3
  ctrO : ∀ r ∈ R.ctr, ctrOk r
  logL : R.log.length = R.n6
  logO : ∀ r ∈ R.log, r.Ok
  gstL : R.gst.length = R.n7
  gstO : ∀ r ∈ R.gst, r.Ok
structure Rsl.Lies (R : Rsl) (B : Nat) (w : World) : Prop where
  r3 : Rd w B 2 R.A3 R.n3 (R.ctr.map ctrCells).flatten
  r6 : Rd w B 35 R.A6 R.n6 (R.log.map recCells).flatten
  r7 : Rd w B 6 R.A7 R.n7 (R.gst.map gstCells).flatten
def Rsl.few (R : Rsl) : Prop := R.n3 ≤ 40 ∧ R.n6 ≤ 40 ∧ R.n7 ≤ 40
def Rsl.lines (R : Rsl) : List (List UInt8) := (if R.x = 0 then manLines R.ver R.fr R.D R.log R.gst else [joinWs (refWords R.x R.y R.z)]) ++ ctrLines R.ctr R.n3
theorem Rsl.Lies.below {R : Rsl} {B : Nat} {w w' : World} (h : R.Lies B w) (hB : Below B w w') : R.Lies B w' := ⟨h.r3.below hB, h.r6.below hB, h.r7.below hB⟩
theorem Rsl.Lies.more {R : Rsl} {B B' : Nat} {w : World} (h : R.Lies B w) (hB : B ≤ B') : R.Lies B' w := ⟨h.r3.more hB, h.r6.more hB, h.r7.more hB⟩
/-- what a call of Lines leaves -/
def LinesPost (ls : List (List UInt8)) (w : World) (e : Ending) (w' : World) : Prop :=
  ∃ A c, e = .returned (.slice A ls.length c) ∧ Rd w' w'.heap.size 1 A ls.length (ls.map strV) ∧ Below w.heap.size w w'
theorem mLines_any (R : Rsl) (C : Array Value) (ok : R.Ok C) (hf : R.few) (w : World) (hl : R.Lies w.heap.size w) : Calls Try.prog 39 #[.agg C] w (LinesPost R.lines w) := by
  obtain ⟨f3, f6, f7⟩ := hf
  unfold Rsl.lines LinesPost
  by_cases h : R.x = 0
  · rw [if_pos h]
    exact mLines_ok C R.A3 R.n3 R.c3 R.ctr (Lib.hid ok.ctrL) (Lib.hid ok.ctrO) f3 _ (by rw [ok.h0, h]) ok.h3 R.M ok.hM (Lib.hid ok.hMs) R.ver R.fr (by rw [List.getElem?_toArray]; exact ok.m0) (by rw [List.getElem?_toArray]; exact ok.m4) R.D (Lib.hid ok.hD) (fun j v hv => by rw [List.getElem?_toArray]; exact ok.m5 j v hv)
      R.A6 R.A7 R.n6 R.c6 R.n7 R.c7 (by rw [List.getElem?_toArray]; exact ok.m69) (by rw [List.getElem?_toArray]; exact ok.m70) R.log (Lib.hid ok.logL) (Lib.hid ok.logO) f6 R.gst (Lib.hid ok.gstL) (Lib.hid ok.gstO) f7 ok.hver (Lib.hid ok.hfr) (Lib.hid rfl) w hl.r3 hl.r6 hl.r7
  · rw [if_neg h]
    exact mLines_ref C R.A3 R.n3 R.c3 R.ctr (Lib.hid ok.ctrL) (Lib.hid ok.ctrO) f3 _ R.x R.y R.z (Lib.hid ok.hx) (Lib.hid ok.hy) (Lib.hid ok.hz) (Lib.hid h) (Lib.hid rfl) ok.h0 ok.h1 ok.h2 ok.h3 w hl.r3
theorem rLines_any (R : Rsl) (C : Array Value) (ok : R.Ok C) (hf : R.few) (w : World) (hl : R.Lies w.heap.size w) : Calls Try.prog 40 #[.agg C] w (LinesPost R.lines w) := by
  obtain ⟨f3, f6, f7⟩ := hf
  unfold Rsl.lines LinesPost
  by_cases h : R.x = 0
  · rw [if_pos h]
    exact rLines_ok C R.A3 R.n3 R.c3 R.ctr (Lib.hid ok.ctrL) (Lib.hid ok.ctrO) f3 _ (by rw [ok.h0, h]) ok.h3 R.ver R.fr (ok.hM 0 _ ok.m0) (ok.hM 4 _ ok.m4) R.D (Lib.hid ok.hD) (fun j v hv => by have := ok.hM _ _ (ok.m5 j v hv); rwa [show 4 + (5 + j) = 9 + j by omega] at this)
      R.A6 R.A7 R.n6 R.c6 R.n7 R.c7 (ok.hM 69 _ ok.m69) (ok.hM 70 _ ok.m70) R.log (Lib.hid ok.logL) (Lib.hid ok.logO) f6 R.gst (Lib.hid ok.gstL) (Lib.hid ok.gstO) f7 ok.hver (Lib.hid ok.hfr) (Lib.hid rfl) w hl.r3 hl.r6 hl.r7
  · rw [if_neg h]
    exact rLines_ref C R.A3 R.n3 R.c3 R.ctr (Lib.hid ok.ctrL) (Lib.hid ok.ctrO) f3 _ R.x R.y R.z (Lib.hid ok.hx) (Lib.hid ok.hy) (Lib.hid ok.hz) (Lib.hid h) (Lib.hid rfl) ok.h0 ok.h1 ok.h2 ok.h3 w hl.r3
end Go.Proofs.Ytnjfghlgknnhmaa
