/-
  Walk: portreeveref04.Digits: the same row of digits.
-/
import Derived.Test.YtapkhafgfbhkkaaDoorWotsB
namespace Go.Proofs.YtapkhafgfbhkkaaDoor
open Go.RowKit

theorem u8_and15 (a : Nat) (h : a < 256) : bits .and .u8 (a : Int) 15 = ((a % 16 : Nat) : Int) := by
  have := u8_and_nat a 15 h (by decide)
  rw [nat_mask4] at this; exact this

theorem size8 (W : World) : (sizeOf 5).run Tryd.prog W = .ok 1 W := by kernel_rfl
theorem nodeIndex (l : List UInt8) (h : l.length = 32) (k : Nat) (hk : k < 32) (W : World) :
    (Instr.index 27 (.agg (bcells l).toArray) (.int .i64 (k : Int))).run Tryd.prog W = .ok (.int .u8 (l[k]?.getD 0).toNat) W := by
  have h1 : (0 : Int) ≤ k ∧ (k : Int) < ((32 : Nat) : Int) := by omega
  have h2 := run_part_byte W Tryd.underlying5 l k (by omega)
  have e : l[k]?.getD 0 = l[k] := by simp [List.getElem?_eq_getElem (show k < l.length by omega)]
  rw [e]
  simp only [Instr.index, asIntOf, Sem.run_bind, Sem.run_pure, Result.andThen_ok, run_underlying Tryd.underlying27, if_pos h1, size8, Int.toNat_natCast, Nat.mul_one, h2]

theorem row_set (f : Nat → Nat) (n : Nat) (h : n < 67) : (upto f n ++ List.replicate (67 - n) 0).set n (f n) = upto f (n + 1) ++ List.replicate (67 - (n + 1)) 0 := by
  have e : 67 - n = (67 - (n + 1)) + 1 := by omega
  rw [e, List.replicate_succ, upto_succ, List.set_append_right _ _ (by rw [upto_length]; omega)]
  simp [upto_length]
theorem row_len (f : Nat → Nat) (n : Nat) (h : n ≤ 67) : (upto f n ++ List.replicate (67 - n) 0).length = 67 := by simp [upto_length]; omega
theorem row_cell {w : World} {g : Nat} {l : List Nat} (h : Blk w g 54 (icells l).toArray) (hl : l.length = 67) (i : Nat) (hi : i < 67) : ∃ v, w.cell? ⟨g, i, none⟩ = some v := by
  rw [h.cell]; exact ⟨_, Array.getElem?_eq_getElem (by simp [icells_length, hl, hi])⟩

theorem row_dig {w : World} {g : Nat} (f : Nat → Nat) (n : Nat) (r : List Nat) (h : Blk w g 54 (icells (upto f n ++ r)).toArray) (i : Nat) (hi : i < n) : w.cell? ⟨g, i, none⟩ = some (.int .i64 (f i : Nat)) := by
  rw [h.cell, List.getElem?_toArray, icells, List.getElem?_map, List.getElem?_append_left (by rw [upto_length]; exact hi)]
  simp [upto, hi]
theorem upto_dig (m : List UInt8) : upto (dig m) 64 = upto (digAll m) 64 := by
  unfold upto
  refine List.map_congr_left fun i hi => ?_
  simp only [List.mem_range] at hi
  simp [digAll, hi]
theorem chk64 (m : List UInt8) : bits .and .i64 ((dsum m 64 : Int) / 256) 15 = (digAll m 64 : Nat) := hchk m 64 (by decide) (by decide)
theorem chk65 (m : List UInt8) : bits .and .i64 ((dsum m 64 : Int) / 16) 15 = (digAll m 65 : Nat) := hchk m 65 (by decide) (by decide)
theorem chk66 (m : List UInt8) : bits .and .i64 (dsum m 64 : Int) 15 = (digAll m 66 : Nat) := by
  have := hchk m 66 (by decide) (by decide)
  rwa [show ((dsum m 64 : Nat) : Int) / 2 ^ (4 * (66 - 66)) = dsum m 64 by omega] at this

theorem dig_even (m : List UInt8) (k : Nat) : dig m (2 * k) = (m[k]?.getD 0).toNat / 16 := by
  unfold dig; rw [if_pos (by omega), show 2 * k / 2 = k by omega]
theorem dig_odd (m : List UInt8) (k : Nat) : dig m (2 * k + 1) = (m[k]?.getD 0).toNat % 16 := by
  unfold dig; rw [if_neg (by omega), show (2 * k + 1) / 2 = k by omega]

set_option maxRecDepth 100000 in
set_option maxHeartbeats 2000000 in
theorem rDigits_any (m : List UInt8) (hm : m.length = 32) (w : World) :
    Calls Tryd.prog 39 #[.agg (bcells m).toArray] w fun e w' => e = .returned (.agg (icells (wdigs m)).toArray) ∧ Below w.heap.size w w' := by
  have Hm := Lib.hid hm
  have hz67 := zero67
  clear hm
  go_enter Tryd.func39, Tryd.ntmps39
  go_wp2_with (refine wpList_loadAll _ rfl 27 _ rfl w.heap.size 27 (bcells m).toArray ((((Blk.new w 27 (bcells m).toArray).alloc _).alloc _)) _ rfl Tryd.underlying27 rfl (by rw [List.size_toArray, bcells_length, Hm.out]; kernel_rfl) ?_)
  obtain ⟨W, hW⟩ : ∃ W, W = ((w.alloc (.cells (bcells m).toArray 27)).alloc (.cells (icells zeros67).toArray 54)).alloc (.cells (icells zeros67).toArray 54) := ⟨_, rfl⟩
  have hr0 : Blk W (w.heap.size + 1) 54 (icells zeros67).toArray := by
    rw [hW]; have := (Blk.new (w.alloc (.cells (bcells m).toArray 27)) 54 (icells zeros67).toArray).alloc (.cells (icells zeros67).toArray 54)
    rwa [World.size_alloc] at this
  have ho0 : Blk W (w.heap.size + 2) 54 (icells zeros67).toArray := by
    rw [hW]; have := Blk.new ((w.alloc (.cells (bcells m).toArray 27)).alloc (.cells (icells zeros67).toArray 54)) 54 (icells zeros67).toArray
    rwa [World.size_alloc, World.size_alloc] at this
  have hs : W.heap.size = w.heap.size + 3 := by rw [hW]; simp
  have hB : Below w.heap.size w W := by rw [hW]; exact (((Below.refl _ w).alloc (Nat.le_refl _) _).alloc (by simp) _).alloc (by simp; omega) _
  rw [← hW]
  clear hW
  go_loopw [4, 8] (fun s i wr => ∃ k : Nat, k ≤ 32 ∧ i = .int .i64 k ∧ s = .int .i64 (dsum m (2 * k) : Nat) ∧ Blk wr (w.heap.size + 1) 54 (icells zeros67).toArray ∧
    Blk wr (w.heap.size + 2) 54 (icells (upto (dig m) (2 * k) ++ List.replicate (67 - 2 * k) 0)).toArray ∧ Below w.heap.size w wr) (fun _ i _ => 32 - (intOf i).toNat)
  case atStart => exact ⟨0, by omega, rfl, rfl, hr0, ho0, hB⟩
  case round =>
    obtain ⟨k, hk, rfl, rfl, hr, ho, hBr⟩ := hrel
    by_cases hlt : k < 32
    · have hix : (bcells m)[k]? = some (.int .u8 (m[k]?.getD 0).toNat) := bcells_get m k (by rw [Hm.out]; exact hlt)
      have hix' := nodeIndex m Hm.out k hlt
      have hb8 := (m[k]?.getD 0).toNat_lt
      have hand := u8_and15 (m[k]?.getD 0).toNat hb8
      obtain ⟨v1, hc1⟩ : ∃ v, wr.cell? ⟨w.heap.size + 1 + 1, 2 * k, none⟩ = some v := row_cell ho (row_len _ _ (by omega)) _ (by omega)
      obtain ⟨v2, hc2⟩ : ∃ v, wr.cell? ⟨w.heap.size + 1 + 1, 2 * k + 1, none⟩ = some v := row_cell ho (row_len _ _ (by omega)) _ (by omega)
      have hf1 : wr.frozen? ⟨w.heap.size + 1 + 1, 2 * k, none⟩ = false := ho.frozen _
      have hf2 : wr.frozen? ⟨w.heap.size + 1 + 1, 2 * k + 1, none⟩ = false := ho.frozen _
      go_wp2_with fail
      have e1 : ((m[k]?.getD 0).toNat : Int) / 16 = (dig m (2 * k) : Nat) := by rw [dig_even]; omega
      have e2 : ((m[k]?.getD 0).toNat : Int) % 16 = (dig m (2 * k + 1) : Nat) := by rw [dig_odd]; omega
      rw [e1, e2]
      have hb2 := (ho.set_ (2 * k) (.int .i64 (dig m (2 * k) : Nat))).set_ (2 * k + 1) (.int .i64 (dig m (2 * k + 1) : Nat))
      rw [icells_set, icells_set, row_set _ _ (by omega), row_set _ _ (by omega)] at hb2
      have hrr := (hr.far (p := ⟨w.heap.size + 2, 2 * k, none⟩) (by simp) (.int .i64 (dig m (2 * k) : Nat))).far (p := ⟨w.heap.size + 2, 2 * k + 1, none⟩) (by simp) (.int .i64 (dig m (2 * k + 1) : Nat))
      have hBB := (hBr.setCell (p := ⟨w.heap.size + 2, 2 * k, none⟩) (by simp) (.int .i64 (dig m (2 * k) : Nat))).setCell (p := ⟨w.heap.size + 2, 2 * k + 1, none⟩) (by simp) (.int .i64 (dig m (2 * k + 1) : Nat))
      obtain ⟨W2, hW2⟩ : ∃ W2, W2 = (wr.setCell ⟨w.heap.size + 2, 2 * k, none⟩ (.int .i64 (dig m (2 * k) : Nat))).setCell ⟨w.heap.size + 2, 2 * k + 1, none⟩ (.int .i64 (dig m (2 * k + 1) : Nat)) := ⟨_, rfl⟩
      rw [← hW2] at hb2 hrr hBB ⊢
      clear hW2 ho hr hBr hc1 hc2 hf1 hf2 hix hix' hand e1 e2
      have hd1 : W2.cell? ⟨w.heap.size + 1 + 1, 2 * k, none⟩ = some (.int .i64 (dig m (2 * k) : Nat)) := row_dig _ _ _ hb2 _ (by omega)
      have hd2 : W2.cell? ⟨w.heap.size + 1 + 1, 2 * k + 1, none⟩ = some (.int .i64 (dig m (2 * k + 1) : Nat)) := row_dig _ _ _ hb2 _ (by omega)
      have hl1 := dig_lt m (2 * k)
      have hl2 := dig_lt m (2 * k + 1)
      have hds := dsum_le m (2 * k)
      go_quiet (fail)
      have e3 : (dsum m (2 * k) : Int) + (30 - (dig m (2 * k) : Int) - (dig m (2 * k + 1) : Int)) = (dsum m (2 * (k + 1)) : Nat) := by
        rw [show 2 * (k + 1) = 2 * k + 1 + 1 by omega]
        simp only [dsum]; omega
      rw [e3]
      clear e3 hd1 hd2 hl1 hl2 hds
      go_wp2
      go_roundw
      case rel => exact ⟨k + 1, by omega, by simp, rfl, hrr, hb2, below_drewN hBB _⟩
      case measure => simp [intOf]; omega
    · obtain rfl : k = 32 := by omega
      have e64 : 2 * 32 = 64 := rfl
      rw [e64] at ho ⊢
      rw [upto_dig] at ho
      have hds := dsum_le m 64
      have hk1 := chk64 m
      have hk2 := chk65 m
      have hk3 := chk66 m
      obtain ⟨v1, hc1⟩ : ∃ v, wr.cell? ⟨w.heap.size + 1 + 1, 64, none⟩ = some v := row_cell ho (row_len _ _ (by omega)) _ (by omega)
      obtain ⟨v2, hc2⟩ : ∃ v, wr.cell? ⟨w.heap.size + 1 + 1, 65, none⟩ = some v := row_cell ho (row_len _ _ (by omega)) _ (by omega)
      obtain ⟨v3, hc3⟩ : ∃ v, wr.cell? ⟨w.heap.size + 1 + 1, 66, none⟩ = some v := row_cell ho (row_len _ _ (by omega)) _ (by omega)
      have hf1 : wr.frozen? ⟨w.heap.size + 1 + 1, 64, none⟩ = false := ho.frozen _
      have hf2 : wr.frozen? ⟨w.heap.size + 1 + 1, 65, none⟩ = false := ho.frozen _
      have hf3 : wr.frozen? ⟨w.heap.size + 1 + 1, 66, none⟩ = false := ho.frozen _
      have hb2 := ((ho.set_ 64 (.int .i64 (digAll m 64 : Nat))).set_ 65 (.int .i64 (digAll m 65 : Nat))).set_ 66 (.int .i64 (digAll m 66 : Nat))
      rw [icells_set, icells_set, icells_set, row_set _ _ (by omega), row_set _ _ (by omega), row_set _ _ (by omega)] at hb2
      rw [show upto (digAll m) (64 + 1 + 1 + 1) ++ List.replicate (67 - (64 + 1 + 1 + 1)) 0 = wdigs m by simp [wdigs]] at hb2
      have hrr := ((hr.far (p := ⟨w.heap.size + 2, 64, none⟩) (by simp) (.int .i64 (digAll m 64 : Nat))).far (p := ⟨w.heap.size + 2, 65, none⟩) (by simp) (.int .i64 (digAll m 65 : Nat))).far (p := ⟨w.heap.size + 2, 66, none⟩) (by simp) (.int .i64 (digAll m 66 : Nat))
      have hBB := ((hBr.setCell (p := ⟨w.heap.size + 2, 64, none⟩) (by simp) (.int .i64 (digAll m 64 : Nat))).setCell (p := ⟨w.heap.size + 2, 65, none⟩) (by simp) (.int .i64 (digAll m 65 : Nat))).setCell (p := ⟨w.heap.size + 2, 66, none⟩) (by simp) (.int .i64 (digAll m 66 : Nat))
      have hlt2 := hrr.lt
      go_wp2_with (first
        | ((with_reducible refine at_load 54 ?_); refine wpList_loadAll _ rfl 54 _ rfl (w.heap.size + 1 + 1) 54 (icells (wdigs m)).toArray hb2 _ rfl Tryd.underlying54 rfl (by rw [List.size_toArray, icells_length, wdigs_length67]; kernel_rfl) ?_)
        | ((with_reducible refine at_store 54 ?_); refine wpList_storeAll _ rfl 54 _ _ rfl (w.heap.size + 1) 54 _ (icells (wdigs m)).toArray hrr rfl rfl (by rw [List.size_toArray, List.size_toArray, icells_length, icells_length, wdigs_length67]; rfl) (by rw [List.size_toArray, icells_length, wdigs_length67]; kernel_rfl) (fun v hv => icells_one _ v (by simpa using hv)) ?_; intro w3 hb3 hg3 hs3))
      refine bodyPost_ret (results_cell_row rfl _ _ (w.heap.size + 1) _ _ _ _ rfl hb3 Tryd.underlying54 rfl (by rw [List.size_toArray, icells_length, wdigs_length67]; kernel_rfl)) rfl ⟨rfl, ?_⟩
      exact grown_below hBB hg3 hBB.size (by omega)
end Go.Proofs.YtapkhafgfbhkkaaDoor
