/-
  Walks: prf.Xor, portreeveref04.Xor.
-/
import Derived.Test.YtapkhafgfbhkkaaDoorPrfC
namespace Go.Proofs.YtapkhafgfbhkkaaDoor
open Go.RowKit Sha

def xorL (a b : List UInt8) : List UInt8 := List.zipWith (fun x y => x ^^^ y) a b
theorem xorL_length (a b : List UInt8) (ha : a.length = 32) (hb : b.length = 32) : (xorL a b).length = 32 := by simp [xorL, ha, hb]
def xorK (a b : List UInt8) (k : Nat) : List UInt8 := (xorL a b).take k ++ a.drop k
theorem xorK_zero (a b : List UInt8) : xorK a b 0 = a := by simp [xorK]
theorem xorK_all (a b : List UInt8) (ha : a.length = 32) (hb : b.length = 32) : xorK a b 32 = xorL a b := by
  unfold xorK; rw [List.take_of_length_le (by rw [xorL_length a b ha hb]; exact Nat.le_refl _), List.drop_of_length_le (by omega), List.append_nil]
theorem xorK_length (a b : List UInt8) (ha : a.length = 32) (hb : b.length = 32) (k : Nat) (hk : k ≤ 32) : (xorK a b k).length = 32 := by
  unfold xorK; rw [List.length_append, List.length_take, List.length_drop, xorL_length a b ha hb]; omega
theorem xorK_get (a b : List UInt8) (ha : a.length = 32) (hb : b.length = 32) (k : Nat) (hk : k < 32) : (xorK a b k)[k]? = a[k]? := by
  unfold xorK
  rw [List.getElem?_append_right (by rw [List.length_take]; omega), List.length_take, xorL_length a b ha hb, List.getElem?_drop, Nat.min_eq_left (by omega), Nat.sub_self, Nat.add_zero]
theorem xorK_set (a b : List UInt8) (ha : a.length = 32) (hb : b.length = 32) (k : Nat) (hk : k < 32) : (xorK a b k).set k (a[k]?.getD 0 ^^^ b[k]?.getD 0) = xorK a b (k + 1) := by
  unfold xorK
  have hl : ((xorL a b).take k).length = k := by rw [List.length_take, xorL_length a b ha hb]; omega
  rw [List.set_append_right _ _ (by omega), hl, Nat.sub_self, List.drop_eq_getElem_cons (by omega), List.set_cons_zero, List.take_succ_eq_append_getElem (by rw [xorL_length a b ha hb]; exact hk), List.append_assoc]
  congr 2
  simp [xorL, List.getElem?_eq_getElem (show k < a.length by omega), List.getElem?_eq_getElem (show k < b.length by omega)]
theorem u8_xorB (a b : UInt8) : bits .xor .u8 (a.toNat : Int) (b.toNat : Int) = ((a ^^^ b).toNat : Int) := by
  rw [u8_xor_nat _ _ a.toNat_lt b.toNat_lt, UInt8.toNat_xor]
theorem byteIndexN {P : Program} {t e : TypeId} {n : Nat} (hu : P.underlying t = some (.array n e)) (he : P.underlying e = some (.int .u8)) (hs : (P.info? e).map (·.size) = some 1) (l : List UInt8) (h : l.length = n) (k : Nat) (hk : k < n) (w : World) :
    (Instr.index t (.agg (bcells l).toArray) (.int .i64 (k : Int))).run P w = .ok (.int .u8 ((l[k]?.getD 0).toNat : Int)) w := by
  have h1 : (0 : Int) ≤ k ∧ (k : Int) < (n : Int) := by omega
  obtain ⟨inf, hinf, hsz⟩ := Option.map_eq_some_iff.1 hs
  have hS : (sizeOf e).run P w = .ok 1 w := by simp [sizeOf, typeInfo, hinf, hsz]
  have h2 := run_part_byte w he l k (by omega)
  have e : l[k]?.getD 0 = l[k] := by simp [List.getElem?_eq_getElem (show k < l.length by omega)]
  rw [e]
  simp only [Instr.index, asIntOf, Sem.run_bind, Sem.run_pure, Result.andThen_ok, run_underlying hu, if_pos h1, hS, Int.toNat_natCast, Nat.mul_one, h2]
attribute [local go_sem] u8_xorB

set_option maxRecDepth 100000 in
set_option maxHeartbeats 1000000 in
theorem mxor_any (a b : List UInt8) (ha' : a.length = 32) (hb' : b.length = 32) (w : World) :
    Calls Tryd.prog 23 #[.agg (bcells a).toArray, .agg (bcells b).toArray] w fun e w' => e = .returned (.agg (bcells (xorL a b)).toArray) ∧ Below w.heap.size w w' := by
  have hz := zeroNode
  have ha := Lib.hid ha'
  have hb := Lib.hid hb'
  have hA0 := (((Blk.new w 27 (bcells a).toArray).alloc (.cells (bcells b).toArray 27)).alloc (.cells zn 27))
  have hC0 := (blk_new1 w (.cells (bcells a).toArray 27) 27 (bcells b).toArray).alloc (.cells zn 27)
  have hN := blk_new2 w (.cells (bcells a).toArray 27) (.cells (bcells b).toArray 27) 27 zn
  have hB : Below w.heap.size w (((w.alloc (.cells (bcells a).toArray 27)).alloc (.cells (bcells b).toArray 27)).alloc (.cells zn 27)) := (((Below.refl _ _).alloc (Nat.le_refl _) _).alloc (by simp) _).alloc (by simp; omega) _
  clear ha' hb'
  go_enter Tryd.func23, Tryd.ntmps23
  go_wp2_with ((with_reducible refine at_load 27 ?_); refine wpList_loadAll _ rfl 27 _ rfl (w.heap.size + 1) 27 (bcells b).toArray hC0 _ rfl Tryd.underlying27 rfl (by rw [List.size_toArray, bcells_length, hb.out]; kernel_rfl) ?_)
  generalize ((w.alloc (.cells (bcells a).toArray 27)).alloc (.cells (bcells b).toArray 27)).alloc (.cells zn 27) = W0 at *
  clear hz hC0
  go_loopw [8] (fun i wr => ∃ k : Nat, k ≤ 32 ∧ i = .int .i64 k ∧ Blk wr w.heap.size 27 (bcells (xorK a b k)).toArray ∧ Blk wr (w.heap.size + 2) 27 zn ∧ Below w.heap.size w wr) (fun i _ => 32 - (intOf i).toNat)
  case atStart => exact ⟨0, by omega, rfl, by rw [xorK_zero]; exact hA0, hN, hB⟩
  case round =>
    clear hA0 hN hB
    obtain ⟨k, hk, rfl, hA, hN, hB⟩ := hrel
    by_cases hlt : k < 32
    · have hix : ∀ W, _ := fun W => byteIndexN (P := Tryd.prog) Tryd.underlying27 Tryd.underlying5 (by kernel_rfl) b hb.out k hlt W
      have ca : wr.cell? ⟨w.heap.size, k, none⟩ = some (.int .u8 ((a[k]?.getD 0).toNat : Int)) := by
        rw [hA.cell, List.getElem?_toArray, bcells_get _ _ (by rw [xorK_length a b ha.out hb.out k hk]; exact hlt), xorK_get a b ha.out hb.out k hlt]
      obtain ⟨x, hx⟩ : ∃ x, x = a[k]?.getD 0 := ⟨_, rfl⟩
      obtain ⟨y, hy⟩ : ∃ y, y = b[k]?.getD 0 := ⟨_, rfl⟩
      have hs := xorK_set a b ha.out hb.out k hlt
      rw [← hx, ← hy] at hs
      rw [← hx] at ca
      rw [← hy] at hix
      have HS := Lib.hid hs
      have hf := hA.frozen k
      have hA2 := hA.set_ k (.int .u8 ((x ^^^ y).toNat : Int))
      rw [bset, HS.out] at hA2
      have hN2 := hN.far (p := ⟨w.heap.size, k, none⟩) (show w.heap.size + 2 ≠ w.heap.size by omega) (.int .u8 ((x ^^^ y).toNat : Int))
      have hB2 := hB.setCell (p := ⟨w.heap.size, k, none⟩) (Nat.le_refl _) (.int .u8 ((x ^^^ y).toNat : Int))
      clear hx hy hs hA hN hB
      go_wp2_with fail
      go_roundw
      case rel => exact ⟨k + 1, by omega, by go_num, hA2, hN2, hB2⟩
      case measure => simp [intOf]; omega
    · obtain rfl : k = 32 := by omega
      rw [xorK_all a b ha.out hb.out] at hA
      obtain ⟨S, hS⟩ : ∃ S, S = xorL a b := ⟨_, rfl⟩
      have HSl : Hid (S.length = 32) := Lib.hid (by rw [hS]; exact xorL_length a b ha.out hb.out)
      rw [← hS] at hA
      have HSS := Lib.hid hS
      clear hS
      go_wp2_with (first
        | ((with_reducible refine at_load 27 ?_); refine wpList_loadAll _ rfl 27 _ rfl w.heap.size 27 (bcells S).toArray hA _ rfl Tryd.underlying27 rfl (by rw [List.size_toArray, bcells_length, HSl.out]; kernel_rfl) ?_)
        | ((with_reducible refine at_store 27 ?_); refine wpList_storeAll _ rfl 27 _ _ rfl (w.heap.size + 2) 27 _ (bcells S).toArray hN rfl rfl (by rw [List.size_toArray, bcells_length, HSl.out]; kernel_rfl) (by rw [List.size_toArray, bcells_length, HSl.out]; kernel_rfl) (fun v hv => bcells_one _ v (by simpa using hv)) ?_; intro w5 h14 hg5 hs5))
      refine bodyPost_ret (results_cell_row rfl _ _ (w.heap.size + 2) _ _ _ _ rfl h14 Tryd.underlying27 rfl (by rw [List.size_toArray, bcells_length, HSl.out]; kernel_rfl)) rfl ⟨by rw [HSS.out], ?_⟩
      exact grown_below hB hg5 hB.size (by omega)
set_option maxRecDepth 100000 in
set_option maxHeartbeats 1000000 in
theorem rxor_any (a b : List UInt8) (ha' : a.length = 32) (hb' : b.length = 32) (w : World) :
    Calls Tryd.prog 24 #[.agg (bcells a).toArray, .agg (bcells b).toArray] w fun e w' => e = .returned (.agg (bcells (xorL a b)).toArray) ∧ Below w.heap.size w w' := by
  have hz := zeroNode
  have ha := Lib.hid ha'
  have hb := Lib.hid hb'
  have hA0 := (((Blk.new w 27 (bcells a).toArray).alloc (.cells (bcells b).toArray 27)).alloc (.cells zn 27))
  have hC0 := (blk_new1 w (.cells (bcells a).toArray 27) 27 (bcells b).toArray).alloc (.cells zn 27)
  have hN := blk_new2 w (.cells (bcells a).toArray 27) (.cells (bcells b).toArray 27) 27 zn
  have hB : Below w.heap.size w (((w.alloc (.cells (bcells a).toArray 27)).alloc (.cells (bcells b).toArray 27)).alloc (.cells zn 27)) := (((Below.refl _ _).alloc (Nat.le_refl _) _).alloc (by simp) _).alloc (by simp; omega) _
  clear ha' hb'
  go_enter Tryd.func24, Tryd.ntmps24
  go_wp2_with fail
  generalize ((w.alloc (.cells (bcells a).toArray 27)).alloc (.cells (bcells b).toArray 27)).alloc (.cells zn 27) = W0 at *
  clear hz
  go_loopw [6] (fun i wr => ∃ k : Nat, k ≤ 32 ∧ i = .int .i64 k ∧ Blk wr w.heap.size 27 (bcells (xorK a b k)).toArray ∧ Blk wr (w.heap.size + 1) 27 (bcells b).toArray ∧ Blk wr (w.heap.size + 2) 27 zn ∧ Below w.heap.size w wr) (fun i _ => 32 - (intOf i).toNat)
  case atStart => exact ⟨0, by omega, rfl, by rw [xorK_zero]; exact hA0, hC0, hN, hB⟩
  case round =>
    clear hA0 hC0 hN hB
    obtain ⟨k, hk, rfl, hA, hC, hN, hB⟩ := hrel
    by_cases hlt : k < 32
    · have cb : wr.cell? ⟨w.heap.size + 1, k, none⟩ = some (.int .u8 ((b[k]?.getD 0).toNat : Int)) := by
        rw [hC.cell, List.getElem?_toArray, bcells_get _ _ (by rw [hb.out]; exact hlt)]
      have ca : wr.cell? ⟨w.heap.size, k, none⟩ = some (.int .u8 ((a[k]?.getD 0).toNat : Int)) := by
        rw [hA.cell, List.getElem?_toArray, bcells_get _ _ (by rw [xorK_length a b ha.out hb.out k hk]; exact hlt), xorK_get a b ha.out hb.out k hlt]
      obtain ⟨x, hx⟩ : ∃ x, x = a[k]?.getD 0 := ⟨_, rfl⟩
      obtain ⟨y, hy⟩ : ∃ y, y = b[k]?.getD 0 := ⟨_, rfl⟩
      have hs := xorK_set a b ha.out hb.out k hlt
      rw [← hx, ← hy] at hs
      rw [← hx] at ca
      rw [← hy] at cb
      have HS := Lib.hid hs
      clear hx hy hs
      go_wp2_with fail
      have g0 : (0 : Int) ≤ (k : Int) := by omega
      have l0 : (k : Int) < (32 : Int) := by omega
      go_still_tail 7, (by kernel_rfl)
      change wpList _ _ _ _ _ wr.drew
      have hA1 := hA.drew
      have hC1 := hC.drew
      have hN1 := hN.drew
      have hB1 := hB.drew
      have ca1 : wr.drew.cell? ⟨w.heap.size, k, none⟩ = some (.int .u8 (x.toNat : Int)) := ca
      have hf := hA1.frozen k
      generalize wr.drew = W5 at *
      clear ca cb hA hC hN hB
      go_wp2_with fail
      have hA2 := hA1.set_ k (.int .u8 ((x ^^^ y).toNat : Int))
      rw [bset, HS.out] at hA2
      have hN2 := hN1.far (p := ⟨w.heap.size, k, none⟩) (show w.heap.size + 2 ≠ w.heap.size by omega) (.int .u8 ((x ^^^ y).toNat : Int))
      have hC2 := hC1.far (p := ⟨w.heap.size, k, none⟩) (show w.heap.size + 1 ≠ w.heap.size by omega) (.int .u8 ((x ^^^ y).toNat : Int))
      have hB2 := hB1.setCell (p := ⟨w.heap.size, k, none⟩) (Nat.le_refl _) (.int .u8 ((x ^^^ y).toNat : Int))
      go_roundw
      case rel => exact ⟨k + 1, by omega, by go_num, hA2, hC2, hN2, hB2⟩
      case measure => simp [intOf]; omega
    · obtain rfl : k = 32 := by omega
      rw [xorK_all a b ha.out hb.out] at hA
      obtain ⟨S, hS⟩ : ∃ S, S = xorL a b := ⟨_, rfl⟩
      have HSl : Hid (S.length = 32) := Lib.hid (by rw [hS]; exact xorL_length a b ha.out hb.out)
      rw [← hS] at hA
      have HSS := Lib.hid hS
      clear hS
      go_wp2_with (first
        | ((with_reducible refine at_load 27 ?_); refine wpList_loadAll _ rfl 27 _ rfl w.heap.size 27 (bcells S).toArray hA _ rfl Tryd.underlying27 rfl (by rw [List.size_toArray, bcells_length, HSl.out]; kernel_rfl) ?_)
        | ((with_reducible refine at_store 27 ?_); refine wpList_storeAll _ rfl 27 _ _ rfl (w.heap.size + 2) 27 _ (bcells S).toArray hN rfl rfl (by rw [List.size_toArray, bcells_length, HSl.out]; kernel_rfl) (by rw [List.size_toArray, bcells_length, HSl.out]; kernel_rfl) (fun v hv => bcells_one _ v (by simpa using hv)) ?_; intro w5 h14 hg5 hs5))
      refine bodyPost_ret (results_cell_row rfl _ _ (w.heap.size + 2) _ _ _ _ rfl h14 Tryd.underlying27 rfl (by rw [List.size_toArray, bcells_length, HSl.out]; kernel_rfl)) rfl ⟨by rw [HSS.out], ?_⟩
      exact grown_below hB hg5 hB.size (by omega)
end Go.Proofs.YtapkhafgfbhkkaaDoor
