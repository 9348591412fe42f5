/-
  Walks: img.Put; the reference's writer; portreeveref14.PutHeader.
-/
import Derived.Test.YtnjfghlgknnhmaaImgC
namespace Go.Proofs.Ytnjfghlgknnhmaa
open Go.RowKit

def putHd (h : Hd) : List UInt8 := if nmOk h.name then hdBytes h else []
def putHdErr (h : Hd) : Int := if nmOk h.name then 0 else 150
theorem nmOk_le {s : List UInt8} (h : nmOk s = true) : s.length ≤ 16 := by simp [nmOk] at h; omega
theorem putAll_len4 (l : List Nat) : (putAll l 4 false).length = 4 * l.length := by
  induction l with
  | nil => rfl
  | cons x l ih => simp only [putAll, List.flatMap_cons, List.length_append, putNum_length, List.length_cons] at *; omega
theorem hdBytes_length (h : Hd) (hd : h.dig.length = 32) (h16 : h.name.length ≤ 16) : (hdBytes h).length = 64 := by
  simp only [hdBytes, List.length_append, putAll_len4, pad16_length _ h16, hd]; rfl
theorem run_fieldB (h : Hd) (hd : h.dig.length = 32) (A : Option Addr) (n c : Nat) (w : World) : (Instr.field 106 (.agg (hdCells h ++ [Value.slice A n c]).toArray) 1).run Try.prog w = .ok (.slice A n c) w := by
  have hc : (hdCells h ++ [Value.slice A n c])[35]? = some (.slice A n c) := by
    rw [List.getElem?_append_right (by rw [hdCells_length h hd]; omega), hdCells_length h hd]; rfl
  simp [Instr.field, run_underlying Try.underlying106, asAgg, part, isAgg, run_underlying Try.underlying27, hc]

set_option maxRecDepth 100000 in
set_option maxHeartbeats 2000000 in
theorem mPutH_any (h : Hd) (ok : h.ok) (w : World) :
    Calls Try.prog 29 #[.agg (hdCells h).toArray] w (BytesErr w (putHd h) (putHdErr h)) := by
  have hdL := Lib.hid ok.dig
  have h35 : Hid ((hdCells h).toArray.size = 35) := Lib.hid (by rw [List.size_toArray, hdCells_length h ok.dig])
  have hb := Blk.new w 55 (hdCells h).toArray
  have B1 : Below w.heap.size w (w.alloc (.cells (hdCells h).toArray 55)) := (Below.refl _ _).alloc (Nat.le_refl _) _
  have hc2 : (w.alloc (.cells (hdCells h).toArray 55)).cell? ⟨w.heap.size, 2, none⟩ = some (.string ⟨h.name.toArray⟩) := (hb.cell 2).trans rfl
  have hfld := run_fieldB h ok.dig
  go_enter Try.func29, Try.ntmps29
  go_wp2_with fail
  generalize w.alloc (.cells (hdCells h).toArray 55) = W1 at *
  refine (mName_any h.name ok.name W1).mono ?_
  rintro e W2 ⟨rfl, hB2⟩
  have hb2 := hb.below hB2 hb.lt
  have B2 := B1.trans (hB2.mono B1.size)
  clear hc2
  cases hk : nmOk h.name with
  | false =>
    go_wp2
    go_ret2
    rw [putHd, putHdErr, hk]
    exact ⟨none, 0, rfl, Nat.le_refl _, Rd.nil _ _ _ _, B2⟩
  | true =>
    have h16 := nmOk_le hk
    go_wp2_with ((with_reducible refine at_load 55 ?_); refine wpList_loadAll _ rfl 55 _ rfl w.heap.size 55 (hdCells h).toArray hb2 _ rfl Try.underlying55 rfl (by rw [h35.out]; exact inf_hd) ?_)
    refine (written_any h ok h16 W2).mono ?_
    rintro e W3 ⟨A, c, rfl, h64, hR, hB3⟩
    have B3 := B2.trans (hB3.mono B2.size)
    go_wp2
    go_ret2
    rw [putHd, putHdErr, hk]
    have hl := hdBytes_length h hdL.out h16
    refine ⟨A, c, ?_, ?_, ?_, B3⟩ <;> simp only [if_true, hl] <;> first | rfl | assumption

/-! the reference's writer -/
def WrSt (w : World) (g : Nat) (L : List UInt8) (e : Int) : Prop :=
  ∃ A c, Blk w g 110 #[.slice A L.length c, .int .i64 e] ∧ w.ownsRow (g + 1) 5 1 (.slice A L.length c) L.length (bcells L)
theorem WrSt.below {w w' : World} {g B : Nat} {L : List UInt8} {e : Int} (h : WrSt w g L e) (hb : Below B w w') (hB : w.heap.size ≤ B) : WrSt w' g L e := by
  obtain ⟨A, c, h1, h2⟩ := h
  exact ⟨A, c, h1.below hb (Nat.lt_of_lt_of_le h1.lt hB), own_chg h2 (Chg.of_below (Z := fun _ => False) (hb.mono hB) (fun k hk hk2 => by omega)) (fun _ _ => id)⟩

set_option maxRecDepth 100000 in
set_option maxHeartbeats 1000000 in
theorem wmust_any (g : Nat) (v : Value) (e0 : Int) (b : Bool) (x : Int) (w : World) (hb : Blk w g 110 #[v, .int .i64 e0]) :
    Calls Try.prog 74 #[.pointer (some ⟨g, 0, none⟩), .bool b, .int .i64 x] w fun e w' => (∃ u, e = .returned u) ∧ Blk w' g 110 #[v, .int .i64 (if b = false ∧ e0 = 0 then x else e0)] ∧ w.grownBy w' (some g) ∧ w'.heap.size = w.heap.size := by
  have hc : w.cell? ⟨g, 1, none⟩ = some (.int .i64 e0) := (hb.cell 1).trans rfl
  have hf : w.frozen? ⟨g, 1, none⟩ = false := hb.frozen 1
  obtain ⟨y, hy⟩ : ∃ y, y = (if b = false ∧ e0 = 0 then x else e0) := ⟨_, rfl⟩
  rw [← hy]
  have HY := Lib.hid hy
  clear hy
  cases b with
  | true =>
    go_enter Try.func74, Try.ntmps74
    go_wp2
    go_end0
    exact ⟨⟨_, rfl⟩, by rw [HY.out, if_neg (fun h => by simpa using h.1)]; exact hb, World.grownBy.refl _ _, rfl⟩
  | false =>
    by_cases h0 : e0 = 0
    · subst h0
      have hs := hb.set_ 1 (.int .i64 x)
      go_enter Try.func74, Try.ntmps74
      go_wp2
      go_end0
      exact ⟨⟨_, rfl⟩, by rw [HY.out, if_pos (by simp)]; simpa using hs, grown_set _ _ _ _, by simp⟩
    · have h1 : (e0 == 0) = false := by simpa using h0
      go_enter Try.func74, Try.ntmps74
      go_wp2
      go_end0
      exact ⟨⟨_, rfl⟩, by rw [HY.out, if_neg (fun h => h0 h.2)]; exact hb, World.grownBy.refl _ _, rfl⟩

set_option maxRecDepth 100000 in
set_option maxHeartbeats 1000000 in
theorem wput_any (g : Nat) (L : List UInt8) (e0 : Int) (x s : Nat) (hs : s ≤ 8) (hL : L.length ≤ 100000) (w : World) (hS : WrSt w g L e0) :
    Calls Try.prog 59 #[.pointer (some ⟨g, 0, none⟩), .int .u64 (x : Int), .int .i64 (s : Int)] w fun e w' => (∃ u, e = .returned u) ∧ WrSt w' g (L ++ putNum x s false) e0 ∧ Below g w w' := by
  obtain ⟨A, c, hb, hO⟩ := hS
  have hc : w.cell? ⟨g, 0, none⟩ = some (.slice A L.length c) := (hb.cell 0).trans rfl
  go_enter Try.func59, Try.ntmps59
  go_wp2_with fail
  refine (rput_any A L.length c false L w x s (Rd.of_own hO) (by omega) hs).mono ?_
  rintro e w1 ⟨A', c', rfl, hO1, hB1⟩
  have hb1 := hb.below hB1 hb.lt
  have hc1 : w1.cell? ⟨g, 0, none⟩ = some (.slice A L.length c) := (hb1.cell 0).trans rfl
  have hf1 : w1.frozen? ⟨g, 0, none⟩ = false := hb1.frozen 0
  have hlt := hb.lt
  clear hc
  go_wp2
  go_end0
  have hset := hb1.set_ 0 (.slice A' (L.length + s) c')
  have hgr := grown_set w1 g 0 (.slice A' (L.length + s) c')
  refine ⟨⟨_, rfl⟩, ⟨A', c', ?_, ?_⟩, ?_⟩
  · simpa [putNum_length] using hset
  · have := own_chg (own_baseI hO1 (show g + 1 ≤ w.heap.size by omega)) (Chg.grown (Z := fun b => b = g) hgr (by rintro k h; cases h; rfl)) (fun k hk e => by have := (hO1.lt k hk).1; have e2 : k = g := e; omega)
    simpa [putNum_length] using this
  · exact (hB1.mono (show g ≤ w.heap.size by omega)).setCell (p := ⟨g, 0, none⟩) (Nat.le_refl _) _
end Go.Proofs.Ytnjfghlgknnhmaa
