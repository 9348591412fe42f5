/-
  Walk: load.Check's checks, one behind the other.
-/
import Derived.Test.YtipdmhppadapkaaGreatDoorLdE
namespace Go.Proofs.YtipdmhppadapkaaGreatDoor
open Go.RowKit Sha

/-- the blocks of load.Check: the variable, the flash, the counter, the result, the row of checks; the look is block x -/
structure LSt (w0 : World) (v y z br bs x f : Nat) (c : Ctr) (W : World) : Prop where
  bel : Below w0.heap.size w0 W
  hv : Blk W v 80 #[.pointer (some ⟨x, 0, none⟩)]
  hy : Blk W y 43 #[.pointer (some ⟨f, 0, none⟩)]
  hz : Blk W z 34 c.cells
  hr : Blk W br 41 vdz
  hs : Blk W bs 85 (ckRow v y z)
structure LNe (w0 : World) (v y z br bs x : Nat) : Prop where
  x0 : w0.heap.size ≤ x
  v : v ≠ x
  y : y ≠ x
  z : z ≠ x
  br : br ≠ x
  bs : bs ≠ x
theorem LSt.chg {w0 : World} {v y z br bs x f : Nat} {c : Ctr} {W W' : World} (h : LSt w0 v y z br bs x f c W) (n : LNe w0 v y z br bs x) (k : Chg (fun b => b = x) W W') : LSt w0 v y z br bs x f c W' :=
  ⟨h.bel.trans (k.below (by rintro b rfl; exact n.x0) h.bel.size), h.hv.chg k n.v, h.hy.chg k n.y, h.hz.chg k n.z, h.hr.chg k n.br, h.hs.chg k n.bs⟩
/-- the look behind the first check -/
def LkAt (l : List UInt8) (g : Gu) (x br : Nat) (W : World) : Prop :=
  ∃ A1 c1 A2 c2 A3 c3, Lk W x g (gHd l g) (.slice A1 (splA (gReg l g) (gOid g)).length c1) (.slice A2 (splB (gReg l g) (gOid g)).length c2) (.slice A3 (gPay l g).length c3) ∧
    Rd W W.heap.size 1 A1 (splA (gReg l g) (gOid g)).length (bcells (splA (gReg l g) (gOid g))) ∧ Rd W W.heap.size 1 A2 (splB (gReg l g) (gOid g)).length (bcells (splB (gReg l g) (gOid g))) ∧ Rd W W.heap.size 1 A3 (gPay l g).length (bcells (gPay l g)) ∧
    ((splA (gReg l g) (gOid g)).length ≤ c1 ∧ c1 ≤ 9223372036854775807) ∧ ((splB (gReg l g) (gOid g)).length ≤ c2 ∧ c2 ≤ 9223372036854775807) ∧ ((gPay l g).length ≤ c3 ∧ c3 ≤ 9223372036854775807) ∧ (∀ y, A3 = some y → y.block ≠ br) ∧ IsU8 W A3
theorem LkAt.ext {l : List UInt8} {g : Gu} {x br : Nat} {W W' : World} (h : LkAt l g x br W) (k : Below W.heap.size W W') : LkAt l g x br W' := by
  obtain ⟨A1, c1, A2, c2, A3, c3, h1, h2, h3, h4, h5, h6, h7, h8, h9⟩ := h
  exact ⟨A1, c1, A2, c2, A3, c3, h1.below k h1.lt, (h2.below k).more k.size, (h3.below k).more k.size, (h4.below k).more k.size, h5, h6, h7, h8, h9.below k⟩
def CkS (w0 : World) (v y z br bs x f : Nat) (l : List UInt8) (g : Gu) (c : Ctr) (k : Nat) (W : World) : Prop :=
  LSt w0 v y z br bs x f c W ∧ (k = 0 → Lk W x g zhd (.slice none 0 0) (.slice none 0 0) (.slice none 0 0)) ∧ (0 < k → LkAt l g x br W)
theorem CkS.read {w0 : World} {v y z br bs x f : Nat} {l : List UInt8} {g : Gu} {c : Ctr} {k : Nat} {W W' : World} (h : CkS w0 v y z br bs x f l g c k W) (n : LNe w0 v y z br bs x) (hk : 0 < k) (b : Below W.heap.size W W') : CkS w0 v y z br bs x f l g c (k + 1) W' :=
  ⟨h.1.chg n (Chg.of_ext b), fun h => by omega, fun _ => (h.2.2 hk).ext b⟩
theorem spl_le (l : List UInt8) (o : Nat) : (splA l o).length ≤ 500 ∧ (splB l o).length ≤ 3000 ∧ (splC l o).length ≤ l.length := by
  have hs : sigSize o ≤ 3000 := by
    have hh : hgt o ≤ 20 := by unfold hgt; split <;> (try split) <;> (try split) <;> omega
    unfold sigSize
    split <;> omega
  unfold splA splB splC
  split
  · refine ⟨?_, ?_, ?_⟩
    · rw [List.length_take]; omega
    · rw [List.length_take]; omega
    · rw [List.length_drop]; omega
  · exact ⟨by simp, by simp, by simp⟩
theorem gHd_ok (l : List UInt8) (g : Gu) : (gHd l g).dig.length = 32 ∧ (gHd l g).size < 4294967296 ∧ (gHd l g).ver < 4294967296 := by
  unfold gHd splHd
  split
  · exact ⟨(hdVal_ok _).dig, (hdVal_ok _).size, (hdVal_ok _).ver⟩
  · exact ⟨rfl, by decide, by decide⟩
theorem gPay_le (l : List UInt8) (g : Gu) : (gPay l g).length ≤ l.length := Nat.le_trans (spl_le _ _).2.2 (getV_le _ _ _)

theorem checks_any (w0 : World) (v y z br bs x f : Nat) (l : List UInt8) (hl5 : l.length ≤ 1000000) (g : Gu) (c : Ctr) (n : LNe w0 v y z br bs x) (ok : g.ok w0 w0.heap.size) (hF : FL w0 f l) (hT : Tabs w0) (w : World) (h0 : CkS w0 v y z br bs x f l g c 0 w) :
    Calls Tryz.prog 27 #[.slice (some ⟨bs, 0, none⟩) 7 7] w fun e w' => e = .returned (.int .i64 (vErr l g c)) ∧ (vErr l g c = 0 → CkS w0 v y z br bs x f l g c 7 w') ∧ LSt w0 v y z br bs x f c w' := by
  refine asked_any 7 (by omega) bs ckF (ckC v y z) (errAt l g c) (CkS w0 v y z br bs x f l g c) (LSt w0 v y z br bs x f c) w ck_fn ?_ (fun _ _ h => h.1) ?_ h0
  · intro k W h j hj
    rw [h.1.hs.cell]
    match j, hj with
    | 0, _ => rfl
    | 1, _ => rfl
    | 2, _ => rfl
    | 3, _ => rfl
    | 4, _ => rfl
    | 5, _ => rfl
    | 6, _ => rfl
  · intro k hk W h _
    have hT2 := hT.below h.1.bel
    have ok2 := ok.below h.1.bel h.1.bel.size
    obtain ⟨hd1, hd2, hd3⟩ := gHd_ok l g
    obtain ⟨p1, p2, p3⟩ := spl_le (gReg l g) (gOid g)
    have p4 := gPay_le l g
    have fin : ∀ {E : Int} {e : Ending} {W' : World}, 0 < k → e = .returned (.int .i64 E) → Below W.heap.size W W' → e = .returned (.int .i64 E) ∧ (E = 0 → CkS w0 v y z br bs x f l g c (k + 1) W') ∧ LSt w0 v y z br bs x f c W' :=
      fun hk0 he hB => ⟨he, fun _ => h.read n hk0 hB, (h.read n hk0 hB).1⟩
    match k, hk with
    | 0, _ =>
      refine (c1_any v x y f l hl5 g W ok2 h.1.hv h.1.hy (h.2.1 rfl) (hF.below h.1.bel)).mono ?_
      rintro e W' ⟨h1, h2, h3⟩
      refine ⟨h1, fun he => ⟨h.1.chg n h2, fun h => by omega, fun _ => ?_⟩, h.1.chg n h2⟩
      obtain ⟨A1, c1, A2, c2, A3, c3, q1, q2, q3, q4, q5, q6, q7, q8⟩ := h3 he
      exact ⟨A1, c1, A2, c2, A3, c3, q1, q2, q3, q4, q5, q6, q7, fun y hy => by have := q8.1 y (.inr (.inr hy)); have := h.1.hr.lt; omega, q8.2⟩
    | 1, _ =>
      obtain ⟨A1, c1, A2, c2, A3, c3, q1, q2, q3, q4, q5, q6, q7, _⟩ := h.2.2 (by omega)
      exact (c2_any A1 _ c1 _ A2 _ c2 _ _ h.1.hv q1 ok.key hd1 p1 q5 p2 q6.1 q2 q3 hT2).mono fun e W' ⟨a, b⟩ => fin (by omega) a b
    | 2, _ =>
      obtain ⟨A1, c1, A2, c2, A3, c3, q1, q2, q3, q4, q5, q6, q7, _⟩ := h.2.2 (by omega)
      exact (c3_any A3 _ c3 _ _ _ h.1.hv q1 ok.key hd1 (by omega) q7 q4 hT2).mono fun e W' ⟨a, b⟩ => fin (by omega) a b
    | 3, _ =>
      obtain ⟨A1, c1, A2, c2, A3, c3, q1, q2, q3, q4, q5, q6, q7, _⟩ := h.2.2 (by omega)
      exact (c4_any _ _ _ h.1.hv q1 ok.key).mono fun e W' ⟨a, b⟩ => fin (by omega) a b
    | 4, _ =>
      obtain ⟨A1, c1, A2, c2, A3, c3, q1, q2, q3, q4, q5, q6, q7, _⟩ := h.2.2 (by omega)
      exact (c5_any _ _ _ h.1.hv q1 ok2 hd2).mono fun e W' ⟨a, b⟩ => fin (by omega) a b
    | 5, _ =>
      exact (c6_any z c h.1.hz).mono fun e W' ⟨a, b⟩ => fin (by omega) a b
    | 6, _ =>
      obtain ⟨A1, c1, A2, c2, A3, c3, q1, q2, q3, q4, q5, q6, q7, _⟩ := h.2.2 (by omega)
      exact (c7_any z c _ _ _ h.1.hv q1 ok.key h.1.hz).mono fun e W' ⟨a, b⟩ => fin (by omega) a b
end Go.Proofs.YtipdmhppadapkaaGreatDoor
