/-
  Walk: img.Of: the header that bytes are.
-/
import Derived.Test.YtnjfghlgknnhmaaImgF
import Derived.Test.YtnjfghlgknnhmaaOwn
import Derived.Test.YtnjfghlgknnhmaaStore2
namespace Go.Proofs.Ytnjfghlgknnhmaa
open Go.RowKit

def nmAt (b : List UInt8) : List UInt8 := ((b.drop 16).take 16).takeWhile (fun c => !(c == 0))
def hdRaw (b : List UInt8) : Hd := ⟨rdNum b 4 4 false, rdNum b 8 4 false, nmAt b, b.drop 32⟩
def hdGood (b : List UInt8) : Bool := b.length == 64 && nmOk (nmAt b) && (hdBytes (hdRaw b) == b)
def hdVal (b : List UInt8) : Hd := if hdGood b then hdRaw b else zhd
def hdErr (b : List UInt8) : Int := if hdGood b then 0 else 150
theorem nmAt_le (b : List UInt8) : (nmAt b).length ≤ 16 := by
  unfold nmAt
  refine Nat.le_trans (List.takeWhile_sublist _).length_le ?_
  simp; omega
theorem hdRaw_ok (b : List UInt8) (h : b.length = 64) : (hdRaw b).ok :=
  ⟨rdNum_lt b 4 4 false, rdNum_lt b 8 4 false, by have := nmAt_le b; show (nmAt b).length ≤ _; omega, by show (b.drop 32).length = 32; simp; omega⟩
theorem hdVal_ok (b : List UInt8) : (hdVal b).ok := by
  unfold hdVal
  split
  · rename_i h
    simp only [hdGood, Bool.and_eq_true, beq_iff_eq] at h
    exact hdRaw_ok b h.1.1
  · exact ⟨by show 0 < _; omega, by show 0 < _; omega, by simp [zhd], rfl⟩
theorem nmAt_eq (b : List UInt8) (hl : b.length = 64) (k : Nat) (hk : k ≤ 16) (h : ∀ j, j < k → b[16 + j]? ≠ some 0) (he : k = 16 ∨ b[16 + k]? = some 0) : nmAt b = (b.drop 16).take k := by
  have e : (b.drop 16).take 16 = (b.drop 16).take k ++ ((b.drop 16).drop k).take (16 - k) := by
    rw [show (16 : Nat) = k + (16 - k) by omega, List.take_add]; simp
  unfold nmAt
  rw [e, List.takeWhile_append_of_pos]
  · rcases he with rfl | he
    · simp
    · rcases Nat.eq_or_lt_of_le hk with rfl | hk
      · simp
      · have : ((b.drop 16).drop k).take (16 - k) = 0 :: (((b.drop 16).drop k).take (16 - k)).tail := by
          cases hx : ((b.drop 16).drop k).take (16 - k) with
          | nil => have := congrArg List.length hx; simp at this; omega
          | cons x xs =>
            have h0 : (((b.drop 16).drop k).take (16 - k))[0]? = some x := by rw [hx]; rfl
            rw [List.getElem?_take, if_pos (by omega), List.getElem?_drop, List.getElem?_drop, Nat.add_zero, he] at h0
            cases h0; rfl
        rw [this]; simp
  · intro c hc
    obtain ⟨i, hi⟩ := List.getElem?_of_mem hc
    rw [List.getElem?_take] at hi
    split at hi
    · rename_i hik
      rw [List.getElem?_drop] at hi
      have := h i hik
      rw [hi] at this
      simpa using this
    · cases hi
theorem run_build_at {P : Program} (w : World) {t : TypeId} {fields : Array Field} {z : Array Value} (i off : Nat) (v : Value) (places : List (Nat × Nat)) (hu : P.underlying t = some (.struct fields))
    (hz : (P.info? t).map (·.zero) = some (some (.agg z))) (hp : fields.toList.mapM (fun f => (P.info? f.type).map fun i => (f.offset, i.size)) = some places)
    (hpl : places.toArray[i]? = some (off, v.cells.size)) (hl : off + v.cells.size ≤ z.size) :
    (Instr.build t #[(i, v)]).run P w = .ok (.agg (splice z.toList off v.cells.toList).toArray) w := by
  refine run_build w t _ _ ?_
  obtain ⟨inf, hi, hz⟩ := Option.map_eq_some_iff.1 hz
  unfold Program.built
  simp only [hi, hu, hz, hp]
  have := fill_splice (place := (places.toArray[·]?)) (cells := z) (rest := []) hpl hl
  simp only [Instr.fill] at this ⊢
  simpa [Value.cells] using this
theorem run_hd3 (d : List UInt8) (hd : d.length = 32) (w : World) : (Instr.build 55 #[(3, .agg (bcells d).toArray)]).run Try.prog w = .ok (.agg (hdCells ⟨0, 0, [], d⟩).toArray) w := by
  have := run_build_at (P := Try.prog) w (t := 55) (z := (hdCells zhd).toArray) 3 3 (.agg (bcells d).toArray) [(0, 1), (1, 1), (2, 1), (3, 32)] Try.underlying55 (by kernel_rfl) (by kernel_rfl) (by simp [Value.cells, bcells_length, hd]) (by simp [Value.cells, bcells_length, hd, hdCells_length, zhd])
  have e : splice (hdCells zhd) 3 (bcells d) = hdCells ⟨0, 0, [], d⟩ := by
    rw [splice, List.drop_eq_nil_of_le (by rw [hdCells_length zhd rfl, bcells_length, hd]; omega), List.append_nil]
    simp [hdCells, zhd]
  simp only [Value.cells, List.toList_toArray] at this
  rw [e] at this
  exact this
theorem run_hd0 (w : World) : (Instr.build 55 #[]).run Try.prog w = .ok (.agg (hdCells zhd).toArray) w := by kernel_rfl
theorem hd_set0 (v s : Nat) (n d : List UInt8) (x : Nat) : (hdCells ⟨v, s, n, d⟩).toArray.setIfInBounds 0 (.int .u32 (x : Int)) = (hdCells ⟨x, s, n, d⟩).toArray := by simp [hdCells]
theorem hd_set1 (v s : Nat) (n d : List UInt8) (x : Nat) : (hdCells ⟨v, s, n, d⟩).toArray.setIfInBounds 1 (.int .u32 (x : Int)) = (hdCells ⟨v, x, n, d⟩).toArray := by simp [hdCells]
theorem hd_set2 (v s : Nat) (n d : List UInt8) (x : List UInt8) : (hdCells ⟨v, s, n, d⟩).toArray.setIfInBounds 2 (.string ⟨x.toArray⟩) = (hdCells ⟨v, s, x, d⟩).toArray := by simp [hdCells]
theorem hdz35 : (hdCells zhd).toArray.size = 35 := by rw [List.size_toArray, hdCells_length zhd rfl]

set_option maxRecDepth 100000 in
set_option maxHeartbeats 2000000 in
theorem mOf_len (A : Option Addr) (n c : Nat) (l : List UInt8) (hn : n ≠ 64) (w : World) (h : Rd w w.heap.size 1 A n (bcells l)) :
    Calls Try.prog 31 #[.slice A n c] w fun e w' => e = .returned (.tuple #[.agg (hdCells (hdVal l)).toArray, .int .i64 (hdErr l)]) ∧ Below w.heap.size w w' := by
  have hlen : n = l.length := by have := h.len; rw [bcells_length] at this; omega
  have hg : hdGood l = false := by simp [hdGood, ← hlen, hn]
  rw [hdVal, hdErr, hg]
  have hz := zeroHd
  have hb0 := run_hd0
  have h35 := Lib.hid hdz35
  have hb := Blk.new w 55 (hdCells zhd).toArray
  have B1 : Below w.heap.size w (w.alloc (.cells (hdCells zhd).toArray 55)) := (Below.refl _ _).alloc (Nat.le_refl _) _
  have hne : ((n : Int) == 64) = false := by simp; omega
  clear hlen hg h
  go_enter Try.func31, Try.ntmps31
  go_wp2_with ((with_reducible refine at_store 55 ?_); refine wpList_storeAll _ rfl 55 _ _ rfl w.heap.size 55 _ (hdCells zhd).toArray hb rfl rfl rfl (by rw [h35.out]; exact inf_hd) (hdCells_one zhd) ?_; intro w3 hb3 hg3 hs3)
  refine bodyPost_ret (results_cell_tmp rfl _ _ w.heap.size _ _ _ _ rfl hb3 Try.underlying55 rfl (by rw [h35.out]; exact inf_hd)) rfl ⟨rfl, ?_⟩
  exact grown_below B1 hg3 B1.size (Nat.le_refl _)

set_option maxRecDepth 100000 in
set_option maxHeartbeats 4000000 in
theorem mOf_64 (A : Option Addr) (c : Nat) (hc : 64 ≤ c) (l : List UInt8) (w : World) (h : Rd w w.heap.size 1 A 64 (bcells l)) :
    Calls Try.prog 31 #[.slice A 64 c] w fun e w' => e = .returned (.tuple #[.agg (hdCells (hdVal l)).toArray, .int .i64 (hdErr l)]) ∧ Below w.heap.size w w' := by
  have hlen : l.length = 64 := by have := h.len; rw [bcells_length] at this; omega
  obtain ⟨d, hd⟩ : ∃ d, d = l.drop 32 := ⟨_, rfl⟩
  have dL : Hid (d.length = 32) := Lib.hid (by rw [hd]; simp; omega)
  obtain ⟨vr, hvr⟩ : ∃ x, x = rdNum l 4 4 false := ⟨_, rfl⟩
  obtain ⟨sz, hsz⟩ : ∃ x, x = rdNum l 8 4 false := ⟨_, rfl⟩
  have HRaw : Hid (∀ nm, nm = nmAt l → hdRaw l = ⟨vr, sz, nm, d⟩) := Lib.hid (by rintro nm rfl; rw [hvr, hsz, hd]; rfl)
  have HVR := Lib.hid hvr
  have HSZ := Lib.hid hsz
  have HD := Lib.hid hd
  have HLEN := Lib.hid hlen
  have hz := zeroHd
  have hb0 := run_hd0
  have hbd3 := run_hd3 d dL.out
  have h35 := Lib.hid hdz35
  have hdr : Rd w w.heap.size 1 (A.map fun x => ⟨x.block, x.off + 32, none⟩) 32 (bcells d) := by
    have := h.at_ 32 32 (by omega) (by omega)
    rw [List.take_of_length_le (by simp; omega)] at this
    rw [hd]; exact this
  have hdr1 := hdr.alloc (Nat.le_refl _) (.cells (hdCells zhd).toArray 55)
  have hbR := (Blk.new w 55 (hdCells zhd).toArray).alloc (.cells (hdCells zhd).toArray 55)
  have hbH := blkI1 w (.cells (hdCells zhd).toArray 55) 55 (hdCells zhd).toArray
  have B1 : Below w.heap.size w ((w.alloc (.cells (hdCells zhd).toArray 55)).alloc (.cells (hdCells zhd).toArray 55)) := ((Below.refl _ _).alloc (Nat.le_refl _) _).alloc (by simp) _
  have harr : ∀ W, (Instr.arrayAt 29 (.slice (A.map fun x => ⟨x.block, x.off + 32, none⟩) 32 (c - 32))).run Try.prog W = .ok (.pointer (A.map fun x => ⟨x.block, x.off + 32, none⟩)) W := fun W => run_arrayAt W Try.underlying29 _ _ _ (Nat.le_refl _)
  have h32 : ¬ c = 32 := by omega
  have c32 : (32 : Int) ≤ (c : Int) := by omega
  clear hlen hd hvr hsz
  go_enter Try.func31, Try.ntmps31
  go_wp2_with (first
    | ((with_reducible refine at_load 29 ?_); refine wpList_runV rfl (reg_loadRd 29 14 rfl rfl hdr1 Try.underlying29 rfl (by rw [List.size_toArray, bcells_length, dL.out]; exact infNode) (by rw [bcells_length, dL.out]; omega)) ?_)
    | ((with_reducible refine at_build 55 ?_); refine wpList_buildV _ rfl #[(3, .agg (bcells d).toArray)] rfl (by simp [Act.eval, Act.put]) (run_hd3 d dL.out _) ?_)
    | ((with_reducible refine at_store 55 ?_); refine wpList_storeAll _ rfl 55 _ _ rfl (w.heap.size + 1) 55 _ (hdCells ⟨0, 0, [], d⟩).toArray hbH rfl rfl (by rw [h35.out, List.size_toArray, hdCells_length _ dL.out]) (by rw [List.size_toArray, hdCells_length _ dL.out]; exact inf_hd) (hdCells_one _) ?_; intro W3 hb3 hg3 hs3))
  have B3 := grown_below B1 hg3 B1.size (by omega)
  have hbR3 := hbR.grown hg3 (by simp)
  have hR3 := (h.below B3).more B3.size
  clear hbR hbH B1 hg3 hs3 hdr hdr1 harr hbd3
  refine (be32_any A 64 c 4 l W3 hR3 (by omega)).mono ?_
  rintro e w' ⟨rfl, hw⟩
  subst hw
  rw [← HVR.out]
  have c0 : W3.cell? ⟨w.heap.size + 1, 0, none⟩ = some (.int .u32 0) := (hb3.cell 0).trans rfl
  have f0 : W3.frozen? ⟨w.heap.size + 1, 0, none⟩ = false := hb3.frozen 0
  go_wp2_with fail
  have B4 := B3.setCell (p := ⟨w.heap.size + 1, 0, none⟩) (by simp) (.int .u32 (vr : Int))
  have hb4 := hb3.set_ 0 (.int .u32 (vr : Int))
  rw [hd_set0] at hb4
  have hbR4 := hbR3.far (p := ⟨w.heap.size + 1, 0, none⟩) (by simp) (.int .u32 (vr : Int))
  generalize W3.setCell ⟨w.heap.size + 1, 0, none⟩ (.int .u32 (vr : Int)) = W4 at *
  clear B3 hb3 hbR3 hR3 c0 f0
  refine (be32_any A 64 c 8 l W4 ((h.below B4).more B4.size) (by omega)).mono ?_
  rintro e w' ⟨rfl, hw⟩
  subst hw
  rw [← HSZ.out]
  have c1 : W4.cell? ⟨w.heap.size + 1, 1, none⟩ = some (.int .u32 0) := (hb4.cell 1).trans rfl
  have f1 : W4.frozen? ⟨w.heap.size + 1, 1, none⟩ = false := hb4.frozen 1
  go_wp2_with fail
  have B5 := B4.setCell (p := ⟨w.heap.size + 1, 1, none⟩) (by simp) (.int .u32 (sz : Int))
  have hb5 := hb4.set_ 1 (.int .u32 (sz : Int))
  rw [hd_set1] at hb5
  have hbR5 := hbR4.far (p := ⟨w.heap.size + 1, 1, none⟩) (by simp) (.int .u32 (sz : Int))
  generalize W4.setCell ⟨w.heap.size + 1, 1, none⟩ (.int .u32 (sz : Int)) = W5 at *
  clear B4 hb4 hbR4 c1 f1
  have hR5 := (h.below B5).more B5.size
  obtain ⟨bb, off, rfl, hbb, hrng⟩ := hR5.range (by omega)
  have h16 : ¬ c = 16 := by omega
  have c16 : (16 : Int) ≤ (c : Int) := by omega
  have hlb : ∀ j, j < 16 → ∃ ch : UInt8, l[16 + j]? = some ch ∧ W5.cell? ⟨bb, off + (16 + j), none⟩ = some (.int .u8 (ch.toNat : Int)) := fun j hj => by
    have hl : 16 + j < l.length := by have := HLEN.out; omega
    exact ⟨l[16 + j], List.getElem?_eq_getElem hl, hrng (16 + j) _ (by simp [bcells, hl])⟩
  have HLB := Lib.hid hlb
  clear hlb
  go_loop [5] (fun i => ∃ k : Nat, k ≤ 16 ∧ i = .int .i64 k ∧ Hid (∀ j, j < k → l[16 + j]? ≠ some 0)) (fun i => 16 - (intOf i).toNat)
  case atStart => exact ⟨0, Nat.zero_le _, rfl, Lib.hid (fun j hj => absurd hj (Nat.not_lt_zero j))⟩
  case round =>
    obtain ⟨k, hk, rfl, hall⟩ := hrel
    have hcase : (k < 16 ∧ ∃ ch : UInt8, ch ≠ 0 ∧ l[16 + k]? = some ch ∧ W5.cell? ⟨bb, off + (16 + k), none⟩ = some (.int .u8 (ch.toNat : Int))) ∨ (k < 16 ∧ l[16 + k]? = some 0 ∧ W5.cell? ⟨bb, off + (16 + k), none⟩ = some (.int .u8 0)) ∨ 16 ≤ k := by
      by_cases hlt : k < 16
      · obtain ⟨ch, hch, hcell⟩ := HLB.out k hlt
        by_cases h0 : ch = 0
        · subst h0; exact .inr (.inl ⟨hlt, hch, hcell⟩)
        · exact .inl ⟨hlt, ch, h0, hch, hcell⟩
      · exact .inr (.inr (by omega))
    rcases hcase with ⟨hlt, ch, h0, hch, hcell⟩ | ⟨hlt, hch, hcell⟩ | hlt
    · have HCH := Lib.hid hch
      have hz1 : (((ch.toNat : Nat) : Int) == 0) = false := by
        have : ch.toNat ≠ 0 := fun e => h0 (UInt8.toNat_inj.1 (by simpa using e))
        simp; omega
      have hz3 : ¬ ((ch.toNat : Nat) : Int) = 0 := by simpa using hz1
      have hz2 : (((ch.toNat : Nat) : Int) != 0) = true := by simpa using hz3
      have hnext : Hid (∀ j, j < k + 1 → l[16 + j]? ≠ some 0) := Lib.hid (fun j hj => by
        rcases Nat.lt_succ_iff_lt_or_eq.1 hj with h | rfl
        · exact hall.out j h
        · rw [HCH.out]; intro e; cases e; exact h0 rfl)
      clear h0 hch
      go_wp2
      go_round
      case rel => exact ⟨k + 1, by omega, by go_num, hnext⟩
      case measure => simp [intOf]; omega
    all_goals
      have hend : Hid (nmAt l = (l.drop 16).take k) := Lib.hid (nmAt_eq l HLEN.out k hk hall.out (by first | exact .inr hch | exact .inl (by omega)))
      try clear hch
      obtain ⟨nm, hnm⟩ : ∃ nm, nm = (l.drop 16).take k := ⟨_, rfl⟩
      have HNM : Hid (nm = nmAt l) := Lib.hid (by rw [hnm]; exact hend.out.symm)
      have hrn : Rd W5 W5.heap.size 1 (some ⟨bb, off + 16, none⟩) (16 + k - 16) (bcells nm) := by rw [hnm, show 16 + k - 16 = k by omega]; exact hR5.at_ 16 k (by omega) (by omega)
      have c2 : W5.cell? ⟨w.heap.size + 1, 2, none⟩ = some (.string ⟨#[]⟩) := (hb5.cell 2).trans rfl
      have f2 : W5.frozen? ⟨w.heap.size + 1, 2, none⟩ = false := hb5.frozen 2
      have hb6 := hb5.set_ 2 (.string ⟨nm.toArray⟩)
      rw [hd_set2] at hb6
      have h35' : Hid ((hdCells ⟨vr, sz, nm, d⟩).toArray.size = 35) := Lib.hid (by rw [List.size_toArray, hdCells_length _ dL.out])
      have B6 := B5.setCell (p := ⟨w.heap.size + 1, 2, none⟩) (by simp) (.string ⟨nm.toArray⟩)
      have hbR6 := hbR5.far (p := ⟨w.heap.size + 1, 2, none⟩) (by simp) (.string ⟨nm.toArray⟩)
      clear hnm hend
      go_wp2_with (first
        | ((with_reducible refine at_conv ?_); refine wpList_str _ Try.underlying27 Try.underlying5 Try.underlying9 rfl _ rfl (some ⟨bb, off + 16, none⟩) (16 + k - 16) (c - 16) nm rfl hrn ?_)
        | ((with_reducible refine at_load 55 ?_); refine wpList_loadAll _ rfl 55 (.tmp 4) rfl (w.heap.size + 1) 55 (hdCells ⟨vr, sz, nm, d⟩).toArray hb6 _ rfl Try.underlying55 rfl (by rw [h35'.out]; exact inf_hd) ?_))
      generalize W5.setCell ⟨w.heap.size + 1, 2, none⟩ (.string ⟨nm.toArray⟩) = W6 at *
      clear c2 f2 hrn B5 hb5 hbR5 hR5 hbb hrng
      try clear hcell
      have HRW : Hid (hdRaw l = ⟨vr, sz, nm, d⟩) := Lib.hid (HRaw.out nm HNM.out)
      have ok6 : (Hd.mk vr sz nm d).ok := by rw [← HRW.out]; exact hdRaw_ok l HLEN.out
      have hG : Hid (hdGood l = (nmOk nm && (hdBytes ⟨vr, sz, nm, d⟩ == l))) := Lib.hid (by unfold hdGood; rw [HLEN.out, ← HNM.out, HRW.out]; rfl)
      refine (mPutH_any ⟨vr, sz, nm, d⟩ ok6 W6).mono ?_
      rintro e W7 ⟨A7, c7, rfl, h7, hR7, hB7⟩
      have B7 := B6.trans (hB7.mono B6.size)
      have hb7 := hb6.below hB7 hb6.lt
      have hbR7 := hbR6.below hB7 hbR6.lt
      have sb := run_str W7 27 9 5 (some ⟨bb, off, none⟩) 64 c l Try.underlying27 Try.underlying5 Try.underlying9 ((h.below B7).more B7.size)
      obtain ⟨X, hX⟩ : ∃ X, X = putHd ⟨vr, sz, nm, d⟩ := ⟨_, rfl⟩
      obtain ⟨E, hE⟩ : ∃ E, E = putHdErr ⟨vr, sz, nm, d⟩ := ⟨_, rfl⟩
      rw [← hX] at hR7 h7 ⊢
      rw [← hE]
      have sx := run_str W7 27 9 5 A7 X.length c7 X Try.underlying27 Try.underlying5 Try.underlying9 hR7
      clear hbR6 hb6 hB7 B6 HRaw h hR7
      cases hkk : nmOk nm with
      | false =>
        have hE2 : E = 150 := by rw [hE, putHdErr, if_neg (by simp [hkk])]
        have hGf : Hid (hdGood l = false) := Lib.hid (by rw [hG.out, hkk]; rfl)
        subst hE2
        clear hE hX hG
        go_wp2_with ((with_reducible refine at_store 55 ?_); refine wpList_storeAll _ rfl 55 _ _ rfl w.heap.size 55 _ (hdCells zhd).toArray hbR7 rfl rfl rfl (by rw [h35.out]; exact inf_hd) (hdCells_one zhd) ?_; intro w8 hb8 hg8 hs8)
        refine bodyPost_ret (results_cell_tmp rfl _ _ w.heap.size _ _ _ _ rfl hb8 Try.underlying55 rfl (by rw [h35.out]; exact inf_hd)) rfl ⟨by rw [hdVal, hdErr, hGf.out]; rfl, ?_⟩
        exact grown_below B7 hg8 B7.size (Nat.le_refl _)
      | true =>
        have hE2 : E = 0 := by rw [hE, putHdErr, if_pos (by simp [hkk])]
        have hX2 : X = hdBytes ⟨vr, sz, nm, d⟩ := by rw [hX, putHd, if_pos (by simp [hkk])]
        rw [hkk, ← hX2] at hG
        subst hE2
        cases hcmp : (X == l) with
        | false =>
          have hGf : Hid (hdGood l = false) := Lib.hid (by rw [hG.out, hcmp]; rfl)
          have hne : X ≠ l := by simpa using hcmp
          clear hE hX hG hX2
          go_wp2_with ((with_reducible refine at_store 55 ?_); refine wpList_storeAll _ rfl 55 _ _ rfl w.heap.size 55 _ (hdCells zhd).toArray hbR7 rfl rfl rfl (by rw [h35.out]; exact inf_hd) (hdCells_one zhd) ?_; intro w8 hb8 hg8 hs8)
          refine bodyPost_ret (results_cell_tmp rfl _ _ w.heap.size _ _ _ _ rfl hb8 Try.underlying55 rfl (by rw [h35.out]; exact inf_hd)) rfl ⟨by rw [hdVal, hdErr, hGf.out]; rfl, ?_⟩
          exact grown_below B7 hg8 B7.size (Nat.le_refl _)
        | true =>
          have hGt : Hid (hdGood l = true) := Lib.hid (by rw [hG.out, hcmp]; rfl)
          have heq : X = l := by simpa using hcmp
          have sx' := sx
          rw [heq] at sx'
          clear hE hX hG hX2
          go_wp2_with (first
            | ((with_reducible refine at_load 55 ?_); refine wpList_loadAll _ rfl 55 (.tmp 4) rfl (w.heap.size + 1) 55 (hdCells ⟨vr, sz, nm, d⟩).toArray hb7 _ rfl Try.underlying55 rfl (by rw [h35'.out]; exact inf_hd) ?_)
            | ((with_reducible refine at_store 55 ?_); refine wpList_storeAll _ rfl 55 _ _ rfl w.heap.size 55 _ (hdCells ⟨vr, sz, nm, d⟩).toArray hbR7 rfl rfl (by rw [h35'.out, h35.out]) (by rw [h35'.out]; exact inf_hd) (hdCells_one _) ?_; intro w8 hb8 hg8 hs8))
          refine bodyPost_ret (results_cell_tmp rfl _ _ w.heap.size _ _ _ _ rfl hb8 Try.underlying55 rfl (by rw [h35'.out]; exact inf_hd)) rfl ⟨by rw [hdVal, hdErr, hGt.out, if_pos rfl, if_pos rfl, HRW.out]; rfl, ?_⟩
          exact grown_below B7 hg8 B7.size (Nat.le_refl _)
theorem mOf_any (A : Option Addr) (n c : Nat) (hc : n ≤ c) (l : List UInt8) (w : World) (h : Rd w w.heap.size 1 A n (bcells l)) :
    Calls Try.prog 31 #[.slice A n c] w fun e w' => e = .returned (.tuple #[.agg (hdCells (hdVal l)).toArray, .int .i64 (hdErr l)]) ∧ Below w.heap.size w w' := by
  by_cases h64 : n = 64
  · subst h64; exact mOf_64 A c hc l w h
  · exact mOf_len A n c l h64 w h
end Go.Proofs.Ytnjfghlgknnhmaa
