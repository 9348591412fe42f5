/-
  Walks: the reference's reader of a name; portreeveref14.HeaderOf.
-/
import Derived.Test.YtnjfghlgknnhmaaImgH
import Derived.Test.YtnjfghlgknnhmaaSameN
namespace Go.Proofs.Ytnjfghlgknnhmaa
open Go.RowKit

set_option maxRecDepth 100000 in
set_option maxHeartbeats 4000000 in
theorem rname_any (g b off c : Nat) (hc : 64 ≤ c) (l : List UInt8) (x : Int) (w : World) (hb : Blk w g 115 (rdr (.slice (some ⟨b, off, none⟩) 64 c) 16 0 x)) (hR : Rd w g 1 (some ⟨b, off, none⟩) 64 (bcells l)) :
    Calls Try.prog 62 #[.pointer (some ⟨g, 0, none⟩)] w fun e w' => e = .returned (.string ⟨(nmAt l).toArray⟩) ∧ Only g w w' := by
  have hlen : l.length = 64 := by have := hR.len; rw [bcells_length] at this; omega
  obtain ⟨nm, hnm⟩ : ∃ nm, nm = nmAt l := ⟨_, rfl⟩
  rw [← hnm]
  have HNM := Lib.hid hnm
  have HLEN := Lib.hid hlen
  have c1 : w.cell? ⟨g, 1, none⟩ = some (.int .i64 16) := (hb.cell 1).trans rfl
  have hglt := hb.lt
  obtain ⟨b', off', e', hbb, hrng⟩ := hR.range (by omega)
  cases e'
  clear hlen hnm
  go_enter Try.func62, Try.ntmps62
  go_wp2_with fail
  refine (rtake_any g b off c hc 16 16 (by omega) (by omega) x w hb).mono ?_
  rintro e W5 ⟨rfl, hb5, hO5⟩
  have hB5 := hO5.below (Nat.le_of_lt hb.lt)
  have hlb : ∀ j, j < 16 → ∃ ch : UInt8, l[16 + j]? = some ch ∧ ∀ W, Below g w W → W.cell? ⟨b, off + 16 + j, none⟩ = some (.int .u8 (ch.toNat : Int)) := fun j hj => by
    have hl : 16 + j < l.length := by have := HLEN.out; omega
    refine ⟨l[16 + j], List.getElem?_eq_getElem hl, fun W hW => ?_⟩
    have := hrng (16 + j) _ (show (bcells l)[16 + j]? = some (.int .u8 (l[16 + j].toNat : Int)) by simp [bcells, hl])
    rw [← Nat.add_assoc] at this
    exact (hW.cell (p := ⟨b, off + 16 + j, none⟩) hbb).trans this
  have HLB := Lib.hid hlb
  have hR5 : Rd W5 g 1 (some ⟨b, off, none⟩) 64 (bcells l) := hR.below hB5
  clear hlb hrng c1
  go_wp2
  go_loop [5] (fun i => ∃ k : Nat, k ≤ 16 ∧ i = .int .i64 k ∧ Hid (∀ j, j < k → l[16 + j]? ≠ some 0)) (fun i => 16 - (intOf i).toNat)
  case atStart => exact ⟨0, Nat.zero_le _, rfl, Lib.hid (fun j hj => absurd hj (Nat.not_lt_zero j))⟩
  case round =>
    obtain ⟨k, hk, rfl, hall⟩ := hrel
    have hcase : (k < 16 ∧ ∃ ch : UInt8, ch ≠ 0 ∧ l[16 + k]? = some ch ∧ W5.cell? ⟨b, off + 16 + k, none⟩ = some (.int .u8 (ch.toNat : Int))) ∨ (k < 16 ∧ l[16 + k]? = some 0 ∧ W5.cell? ⟨b, off + 16 + k, none⟩ = some (.int .u8 0)) ∨ 16 ≤ k := by
      by_cases hlt : k < 16
      · obtain ⟨ch, hch, hcell⟩ := HLB.out k hlt
        have hcell := hcell W5 hB5
        by_cases h0 : ch = 0
        · subst h0; exact .inr (.inl ⟨hlt, hch, hcell⟩)
        · exact .inl ⟨hlt, ch, h0, hch, hcell⟩
      · exact .inr (.inr (by omega))
    rcases hcase with ⟨hlt, ch, h0, hch, hcell⟩ | ⟨hlt, hch, hcell⟩ | hlt
    · have HCH := Lib.hid hch
      have hz1 : (((ch.toNat : Nat) : Int) == 0) = false := by
        have : ch.toNat ≠ 0 := fun e => h0 (UInt8.toNat_inj.1 (by simpa using e))
        simp; omega
      have hz3 : ¬ ((ch.toNat : Nat) : Int) = 0 := by simpa using hz1
      have hz2 : (((ch.toNat : Nat) : Int) != 0) = true := by simpa using hz3
      have hnext : Hid (∀ j, j < k + 1 → l[16 + j]? ≠ some 0) := Lib.hid (fun j hj => by
        rcases Nat.lt_succ_iff_lt_or_eq.1 hj with h | rfl
        · exact hall.out j h
        · rw [HCH.out]; intro e; cases e; exact h0 rfl)
      clear h0 hch
      go_wp2
      go_round
      case rel => exact ⟨k + 1, by omega, by go_num, hnext⟩
      case measure => simp [intOf]; omega
    all_goals
      have hend : Hid (nmAt l = (l.drop 16).take k) := Lib.hid (nmAt_eq l HLEN.out k hk hall.out (by first | exact .inr hch | exact .inl (by omega)))
      try clear hch
      have hrn : Rd W5 W5.heap.size 1 (some ⟨b, off + 16, none⟩) k (bcells nm) := by rw [HNM.out, hend.out]; exact (hR5.at_ 16 k (by omega) (by omega)).more (Nat.le_of_lt hb5.lt)
      have hnl : nm.length = k := by have := hrn.len; rw [bcells_length] at this; omega
      have hcap : k ≤ c - 16 := by omega
      have hck : ¬ c - 16 = k := by omega
      clear hend
      have hnl2 := Lib.hid hnl
      clear hnl
      go_wp2_with ((with_reducible refine at_conv ?_); refine wpList_str _ Try.underlying27 Try.underlying5 Try.underlying9 rfl _ rfl (some ⟨b, off + 16, none⟩) k (c - 16) nm rfl hrn ?_)
      refine (rName_any ⟨nm.toArray⟩ (by show nm.length ≤ _; rw [hnl2.out]; omega) W5).mono ?_
      rintro e w' ⟨rfl, hw⟩
      have hw := hw.symm
      subst hw
      try clear hcell
      cases hkk : nmOk nm with
      | false =>
        go_wp2_with fail
        refine (rfail_any g _ 32 0 x 143 16 W5 hb5).mono ?_
        rintro e W6 ⟨⟨u, rfl⟩, ⟨e6, x6, hb6⟩, hB6⟩
        have B6 := hO5.trans hB6
        clear hB6
        go_wp2
        go_loopw [40] (fun i wr => ∃ j : Nat, k + j ≤ 16 ∧ i = .int .i64 j ∧ (∃ e1 x1 : Int, Blk wr g 115 (rdr (.slice (some ⟨b, off, none⟩) 64 c) 32 e1 x1)) ∧ Only g w wr) (fun i _ => 16 - (intOf i).toNat)
        case atStart => exact ⟨0, by omega, rfl, ⟨_, _, hb6⟩, B6⟩
        case round =>
          obtain ⟨j, hj, rfl, ⟨e1, x1, hbj⟩, hBj⟩ := hrel
          by_cases hlt2 : k + j < 16
          · first
            | (exfalso; omega)
            | (obtain ⟨ch, _, hcell⟩ := HLB.out (k + j) hlt2
               have hcell := hcell wr (hBj.below (Nat.le_of_lt hglt))
               rw [← Nat.add_assoc] at hcell
               by_cases h0 : ch = 0
               · subst h0
                 go_wp2
                 refine ⟨⟨j + 1, by omega, by go_num, ⟨e1, x1, hbj⟩, hBj⟩, ?_⟩
                 simp only [intOf]; omega
               · have hz1 : (((ch.toNat : Nat) : Int) == 0) = false := by
                   have : ch.toNat ≠ 0 := fun e => h0 (UInt8.toNat_inj.1 (by simpa using e))
                   simp; omega
                 have hz3 : ¬ ((ch.toNat : Nat) : Int) = 0 := by simpa using hz1
                 have hz2 : (((ch.toNat : Nat) : Int) != 0) = true := by simpa using hz3
                 clear h0
                 go_wp2_with fail
                 refine (rfail_any g _ 32 e1 x1 143 16 wr hbj).mono ?_
                 rintro e w3 ⟨⟨u, rfl⟩, ⟨e2, x2, hb3⟩, hB3⟩
                 have hBk := hBj.trans hB3
                 clear hB3
                 go_wp2
                 refine ⟨⟨j + 1, by omega, by go_num, ⟨e2, x2, hb3⟩, hBk⟩, ?_⟩
                 simp only [intOf]; omega)
          · go_wp2
            go_ret
            exact ⟨rfl, hBj⟩
      | true =>
        have hb6 := hb5
        have B6 := hO5
        go_wp2_with fail
        go_loopw [40] (fun i wr => ∃ j : Nat, k + j ≤ 16 ∧ i = .int .i64 j ∧ (∃ e1 x1 : Int, Blk wr g 115 (rdr (.slice (some ⟨b, off, none⟩) 64 c) 32 e1 x1)) ∧ Only g w wr) (fun i _ => 16 - (intOf i).toNat)
        case atStart => exact ⟨0, by omega, rfl, ⟨_, _, hb6⟩, B6⟩
        case round =>
          obtain ⟨j, hj, rfl, ⟨e1, x1, hbj⟩, hBj⟩ := hrel
          by_cases hlt2 : k + j < 16
          · first
            | (exfalso; omega)
            | (obtain ⟨ch, _, hcell⟩ := HLB.out (k + j) hlt2
               have hcell := hcell wr (hBj.below (Nat.le_of_lt hglt))
               rw [← Nat.add_assoc] at hcell
               by_cases h0 : ch = 0
               · subst h0
                 go_wp2
                 refine ⟨⟨j + 1, by omega, by go_num, ⟨e1, x1, hbj⟩, hBj⟩, ?_⟩
                 simp only [intOf]; omega
               · have hz1 : (((ch.toNat : Nat) : Int) == 0) = false := by
                   have : ch.toNat ≠ 0 := fun e => h0 (UInt8.toNat_inj.1 (by simpa using e))
                   simp; omega
                 have hz3 : ¬ ((ch.toNat : Nat) : Int) = 0 := by simpa using hz1
                 have hz2 : (((ch.toNat : Nat) : Int) != 0) = true := by simpa using hz3
                 clear h0
                 go_wp2_with fail
                 refine (rfail_any g _ 32 e1 x1 143 16 wr hbj).mono ?_
                 rintro e w3 ⟨⟨u, rfl⟩, ⟨e2, x2, hb3⟩, hB3⟩
                 have hBk := hBj.trans hB3
                 clear hB3
                 go_wp2
                 refine ⟨⟨j + 1, by omega, by go_num, ⟨e2, x2, hb3⟩, hBk⟩, ?_⟩
                 simp only [intOf]; omega)
          · go_wp2
            go_ret
            exact ⟨rfl, hBj⟩

theorem run_hd01 (v s : Nat) (w : World) : (Instr.build 55 #[(0, .int .u32 (v : Int)), (1, .int .u32 (s : Int))]).run Try.prog w = .ok (.agg (hdCells ⟨v, s, [], List.replicate 32 0⟩).toArray) w := by
  have := run_build_rows (P := Try.prog) w (t := 55) (z := (hdCells zhd).toArray) #[(0, .int .u32 (v : Int)), (1, .int .u32 (s : Int))] [.int .u32 (v : Int), .int .u32 (s : Int)] [(0, 1), (1, 1), (2, 1), (3, 32)]
    Try.underlying55 (by kernel_rfl) (by kernel_rfl) rfl (by simp [Rows1, Value.cells]) (by simp [flat, Value.cells, hdCells_length zhd rfl])
  have e : flat [Value.int .u32 (v : Int), .int .u32 (s : Int)] ++ (hdCells zhd).drop (flat [Value.int .u32 (v : Int), .int .u32 (s : Int)]).length = hdCells ⟨v, s, [], List.replicate 32 0⟩ := by
    simp [flat, Value.cells, hdCells, zhd]
  rw [List.toList_toArray, e] at this
  exact this
theorem hd_splice (v s : Nat) (n d d2 : List UInt8) (h1 : d.length = 32) (h2 : d2.length = 32) : splice (hdCells ⟨v, s, n, d⟩) 3 (bcells d2) = hdCells ⟨v, s, n, d2⟩ := by
  rw [splice, List.drop_eq_nil_of_le (by rw [hdCells_length _ h1, bcells_length, h2]; omega), List.append_nil]
  simp [hdCells]

set_option maxRecDepth 100000 in
set_option maxHeartbeats 2000000 in
theorem rHeaderOf_len (A : Option Addr) (n c : Nat) (l : List UInt8) (hn : n ≠ 64) (w : World) (h : Rd w w.heap.size 1 A n (bcells l)) :
    Calls Try.prog 32 #[.slice A n c] w fun e w' => e = .returned (.tuple #[.agg (hdCells (hdVal l)).toArray, .int .i64 (hdErr l)]) ∧ Below w.heap.size w w' := by
  have hlen : n = l.length := by have := h.len; rw [bcells_length] at this; omega
  have hg : hdGood l = false := by simp [hdGood, ← hlen, hn]
  rw [hdVal, hdErr, hg]
  have hz := zeroHd
  have hb0 := run_hd0
  have h35 := Lib.hid hdz35
  have hb := Blk.new w 55 (hdCells zhd).toArray
  have B1 : Below w.heap.size w (w.alloc (.cells (hdCells zhd).toArray 55)) := (Below.refl _ _).alloc (Nat.le_refl _) _
  have hne : ((n : Int) == 64) = false := by simp; omega
  clear hlen hg h
  go_enter Try.func32, Try.ntmps32
  go_wp2_with ((with_reducible refine at_store 55 ?_); refine wpList_storeAll _ rfl 55 _ _ rfl w.heap.size 55 _ (hdCells zhd).toArray hb rfl rfl rfl (by rw [h35.out]; exact inf_hd) (hdCells_one zhd) ?_; intro w3 hb3 hg3 hs3)
  refine bodyPost_ret (results_cell_tmp rfl _ _ w.heap.size _ _ _ _ rfl hb3 Try.underlying55 rfl (by rw [h35.out]; exact inf_hd)) rfl ⟨rfl, ?_⟩
  exact grown_below B1 hg3 B1.size (Nat.le_refl _)

set_option maxRecDepth 100000 in
set_option maxHeartbeats 4000000 in
theorem rHeaderOf_64 (A : Option Addr) (c : Nat) (hc : 64 ≤ c) (l : List UInt8) (w : World) (h : Rd w w.heap.size 1 A 64 (bcells l)) :
    Calls Try.prog 32 #[.slice A 64 c] w fun e w' => e = .returned (.tuple #[.agg (hdCells (hdVal l)).toArray, .int .i64 (hdErr l)]) ∧ Below w.heap.size w w' := by
  have hlen : l.length = 64 := by have := h.len; rw [bcells_length] at this; omega
  obtain ⟨bb, off, rfl, hbb, hrng⟩ := h.range (by omega)
  obtain ⟨d, hd⟩ : ∃ d, d = l.drop 32 := ⟨_, rfl⟩
  have dL : Hid (d.length = 32) := Lib.hid (by rw [hd]; simp; omega)
  obtain ⟨vr, hvr⟩ : ∃ x, x = rdNum l 4 4 false := ⟨_, rfl⟩
  obtain ⟨sz, hsz⟩ : ∃ x, x = rdNum l 8 4 false := ⟨_, rfl⟩
  obtain ⟨nm, hnm⟩ : ∃ x, x = nmAt l := ⟨_, rfl⟩
  have HRW : Hid (hdRaw l = ⟨vr, sz, nm, d⟩) := Lib.hid (by rw [hvr, hsz, hd, hnm]; rfl)
  have cv : IntKind.u32.wrap (vr : Int) = (vr : Int) := IntWalk.u32_in _ (by have := rdNum_lt l 4 4 false; omega)
  have cs : IntKind.u32.wrap (sz : Int) = (sz : Int) := IntWalk.u32_in _ (by have := rdNum_lt l 8 4 false; omega)
  have ok6 : (Hd.mk vr sz nm d).ok := by rw [← HRW.out]; exact hdRaw_ok l hlen
  have hG : Hid (hdGood l = (nmOk nm && (hdBytes ⟨vr, sz, nm, d⟩ == l))) := Lib.hid (by unfold hdGood; rw [hlen, ← hnm, HRW.out]; rfl)
  have HVR := Lib.hid hvr
  have HSZ := Lib.hid hsz
  have HNM := Lib.hid hnm
  have HLEN := Lib.hid hlen
  have hz := zeroHd
  have hb0 := run_hd0
  have h35 := Lib.hid hdz35
  have h35' : Hid ((hdCells ⟨vr, sz, nm, d⟩).toArray.size = 35) := Lib.hid (by rw [List.size_toArray, hdCells_length _ dL.out])
  have hrd : w.rangeAt bb (off + 32) (bcells d) := fun j v hv => by
    rw [hd] at hv
    have := hrng (32 + j) v (by simpa [bcells, List.getElem?_drop] using hv)
    rwa [← Nat.add_assoc] at this
  have harr : ∀ W, (Instr.arrayAt 29 (.slice (some ⟨bb, off + 32, none⟩) 32 (c - 32))).run Try.prog W = .ok (.pointer (some ⟨bb, off + 32, none⟩)) W := fun W => run_arrayAt W Try.underlying29 _ _ _ (Nat.le_refl _)
  have hbR := (Blk.new w 55 (hdCells zhd).toArray).alloc (.cells (rdr (.slice (some ⟨bb, off, none⟩) 64 c) 4 0 0) 115)
  have hbQ := blkI1 w (.cells (hdCells zhd).toArray 55) 115 (rdr (.slice (some ⟨bb, off, none⟩) 64 c) 4 0 0)
  have B1 : Below w.heap.size w ((w.alloc (.cells (hdCells zhd).toArray 55)).alloc (.cells (rdr (.slice (some ⟨bb, off, none⟩) 64 c) 4 0 0) 115)) := ((Below.refl _ _).alloc (Nat.le_refl _) _).alloc (by simp) _
  have h32 : ¬ c = 32 := by omega
  have c32 : (32 : Int) ≤ (c : Int) := by omega
  clear hlen hd hvr hsz hnm hrng
  go_enter Try.func32, Try.ntmps32
  go_wp2_with fail
  have hWW : (w.alloc (.cells (hdCells zhd).toArray 55)).alloc (.cells #[.slice (some ⟨bb, off, none⟩) 64 c, .int .i64 4, .int .i64 0, .int .i64 0] 115) = (w.alloc (.cells (hdCells zhd).toArray 55)).alloc (.cells (rdr (.slice (some ⟨bb, off, none⟩) 64 c) 4 0 0) 115) := rfl
  rw [hWW]
  generalize (w.alloc (.cells (hdCells zhd).toArray 55)).alloc (.cells (rdr (.slice (some ⟨bb, off, none⟩) 64 c) 4 0 0) 115) = W1 at *
  clear hWW
  refine (rnumber_any (w.heap.size + 1) bb off c hc l 4 (by omega) 0 W1 hbQ ((h.below B1).more (by omega))).mono ?_
  rintro e W2 ⟨rfl, hbQ2, hO2⟩
  have hB2 := hO2.below (Nat.le_of_lt hbQ.lt)
  rw [show rdNum l ((4 : Nat) : Int) 4 false = vr from HVR.out.symm]
  have B2 := B1.trans (hB2.mono (by omega))
  have hbR2 := hbR.below hB2 (by omega)
  clear hbR hbQ B1 hB2 hO2
  go_wp2_with fail
  refine (rnumber_any (w.heap.size + 1) bb off c hc l 8 (by omega) 0 W2 hbQ2 ((h.below B2).more (by omega))).mono ?_
  rintro e W3 ⟨rfl, hbQ3, hO3⟩
  have hB3 := hO3.below (Nat.le_of_lt hbQ2.lt)
  rw [show rdNum l ((8 : Nat) : Int) 4 false = sz from HSZ.out.symm]
  have B3 := B2.trans (hB3.mono (by omega))
  have hbR3 := hbR2.below hB3 (by omega)
  clear hbR2 hbQ2 B2 hB3 hO3
  have hbH3 := Blk.new W3 55 (hdCells zhd).toArray
  have hlt3 := hbQ3.lt
  go_wp2_with (first
    | ((with_reducible refine at_build 55 ?_); refine wpList_buildV _ rfl #[(0, .int .u32 (vr : Int)), (1, .int .u32 (sz : Int))] rfl (by simp [Act.eval]) (run_hd01 vr sz _) ?_)
    | ((with_reducible refine at_store 55 ?_); refine wpList_storeAll _ rfl 55 _ _ rfl W3.heap.size 55 _ (hdCells ⟨vr, sz, [], List.replicate 32 0⟩).toArray hbH3 rfl rfl (by rw [h35.out, List.size_toArray, hdCells_length _ (by simp)]) (by rw [List.size_toArray, hdCells_length _ (by simp)]; exact inf_hd) (hdCells_one _) ?_; intro W4 hb4 hg4 hs4; have hbQ4 := (hbQ3.alloc (.cells (hdCells zhd).toArray 55)).grown hg4 (by simp; omega); have q1 : W4.cell? ⟨w.heap.size + 1, 1, none⟩ = some (.int .i64 12) := (hbQ4.cell 1).trans rfl; have fq1 : W4.frozen? ⟨w.heap.size + 1, 1, none⟩ = false := hbQ4.frozen 1))
  have hbR4 := (hbR3.alloc (.cells (hdCells zhd).toArray 55)).grown hg4 (by simp; omega)
  have B4 := grown_below (B3.alloc (by omega) (.cells (hdCells zhd).toArray 55)) hg4 (by simp; omega) (by omega)
  obtain ⟨gH, hgH⟩ : ∃ g, g = W3.heap.size := ⟨_, rfl⟩
  rw [← hgH] at hb4 hlt3 ⊢
  have hbQ5 := hbQ4.set_ 1 (.int .i64 16)
  have hb5 := hb4.far (p := ⟨w.heap.size + 1, 1, none⟩) (by simp; omega) (.int .i64 16)
  have hbR5 := hbR4.far (p := ⟨w.heap.size + 1, 1, none⟩) (by simp) (.int .i64 16)
  have B5 := B4.setCell (p := ⟨w.heap.size + 1, 1, none⟩) (by simp) (.int .i64 16)
  clear hbR3 hbQ3 hbH3 B3 hg4 hs4 hbQ4 q1 fq1 hb4 hbR4 B4 hgH
  generalize W4.setCell ⟨w.heap.size + 1, 1, none⟩ (.int .i64 16) = W5 at *
  refine (rname_any (w.heap.size + 1) bb off c hc l 0 W5 hbQ5 ((h.below B5).more (by omega))).mono ?_
  rintro e W6 ⟨rfl, hO6⟩
  rw [← HNM.out]
  have hb6 := hb5.chg hO6 (by show ¬ gH = _; omega)
  have hbR6 := hbR5.chg hO6 (by show ¬ w.heap.size = _; omega)
  have B6 := B5.trans ((hO6.below (Nat.le_of_lt hbQ5.lt)).mono (by omega))
  have c2 : W6.cell? ⟨gH, 2, none⟩ = some (.string ⟨#[]⟩) := (hb6.cell 2).trans rfl
  have f2 : W6.frozen? ⟨gH, 2, none⟩ = false := hb6.frozen 2
  have hb7 := hb6.set_ 2 (.string ⟨nm.toArray⟩)
  rw [hd_set2] at hb7
  have hbR7 := hbR6.far (p := ⟨gH, 2, none⟩) (by simp; omega) (.string ⟨nm.toArray⟩)
  have B7 := B6.setCell (p := ⟨gH, 2, none⟩) (by simp; omega) (.string ⟨nm.toArray⟩)
  have hrd7 : (W6.setCell ⟨gH, 2, none⟩ (.string ⟨nm.toArray⟩)).rangeAt bb (off + 32) (bcells d) := fun j v hv => (B7.cell (p := ⟨bb, off + 32 + j, none⟩) hbb).trans (hrd j v hv)
  clear hb5 hbR5 B5 hbQ5 hO6
  go_wp2_with (first
    | ((with_reducible refine at_load 29 ?_); refine wpList_runV rfl (reg_loadRange 29 30 rfl rfl hrd7 Try.underlying29 rfl (by rw [List.size_toArray, bcells_length, dL.out]; exact infNode)) ?_)
    | ((with_reducible refine at_store 29 ?_); refine wpList_storeBlk _ rfl 29 _ _ rfl gH 3 55 _ (bcells d).toArray hb7 rfl rfl (by rw [List.size_toArray, bcells_length, dL.out, List.size_toArray, hdCells_length _ (by simp)]; omega) (by rw [List.size_toArray, bcells_length, dL.out]; exact infNode) (fun v hv => bcells_one _ v (by simpa using hv)) ?_; intro W8 hb8 hg8 hs8; rw [List.toList_toArray, List.toList_toArray, hd_splice _ _ _ _ _ (by simp) dL.out] at hb8)
    | ((with_reducible refine at_load 55 ?_); refine wpList_loadAll _ rfl 55 (.tmp 5) rfl gH 55 (hdCells ⟨vr, sz, nm, d⟩).toArray hb8 _ rfl Try.underlying55 rfl (by rw [h35'.out]; exact inf_hd) ?_))
  have hbR8 := hbR7.grown hg8 (by simp; omega)
  have B8 := grown_below B7 hg8 B7.size (by omega)
  clear hb7 hbR7 B7 hb6 hbR6 B6 c2 f2 hg8 hs8 hrd7 hrd harr
  refine (rPutHeader_any ⟨vr, sz, nm, d⟩ ok6 W8).mono ?_
  rintro e W9 ⟨A9, c9, rfl, h9, hR9, hB9⟩
  have B9 := B8.trans (hB9.mono B8.size)
  have hb9 := hb8.below hB9 hb8.lt
  have hbR9 := hbR8.below hB9 hbR8.lt
  have sb := run_str W9 27 9 5 (some ⟨bb, off, none⟩) 64 c l Try.underlying27 Try.underlying5 Try.underlying9 ((h.below B9).more B9.size)
  obtain ⟨X, hX⟩ : ∃ X, X = putHd ⟨vr, sz, nm, d⟩ := ⟨_, rfl⟩
  obtain ⟨E, hE⟩ : ∃ E, E = putHdErr ⟨vr, sz, nm, d⟩ := ⟨_, rfl⟩
  rw [← hX] at hR9 h9 ⊢
  rw [← hE]
  have sx := run_str W9 27 9 5 A9 X.length c9 X Try.underlying27 Try.underlying5 Try.underlying9 hR9
  clear hbR8 hb8 hB9 B8 h hR9
  cases hkk : nmOk nm with
  | false =>
    have hE2 : E = 150 := by rw [hE, putHdErr, if_neg (by simp [hkk])]
    have hGf : Hid (hdGood l = false) := Lib.hid (by rw [hG.out, hkk]; rfl)
    subst hE2
    clear hE hX hG
    go_wp2_with ((with_reducible refine at_store 55 ?_); refine wpList_storeAll _ rfl 55 _ _ rfl w.heap.size 55 _ (hdCells zhd).toArray hbR9 rfl rfl rfl (by rw [h35.out]; exact inf_hd) (hdCells_one zhd) ?_; intro w10 hb10 hg10 hs10)
    refine bodyPost_ret (results_cell_tmp rfl _ _ w.heap.size _ _ _ _ rfl hb10 Try.underlying55 rfl (by rw [h35.out]; exact inf_hd)) rfl ⟨by rw [hdVal, hdErr, hGf.out]; rfl, ?_⟩
    exact grown_below B9 hg10 B9.size (Nat.le_refl _)
  | true =>
    have hE2 : E = 0 := by rw [hE, putHdErr, if_pos (by simp [hkk])]
    have hX2 : X = hdBytes ⟨vr, sz, nm, d⟩ := by rw [hX, putHd, if_pos (by simp [hkk])]
    rw [hkk, ← hX2] at hG
    subst hE2
    cases hcmp : (X == l) with
    | false =>
      have hGf : Hid (hdGood l = false) := Lib.hid (by rw [hG.out, hcmp]; rfl)
      have hne : X ≠ l := by simpa using hcmp
      clear hE hX hG hX2
      go_wp2_with ((with_reducible refine at_store 55 ?_); refine wpList_storeAll _ rfl 55 _ _ rfl w.heap.size 55 _ (hdCells zhd).toArray hbR9 rfl rfl rfl (by rw [h35.out]; exact inf_hd) (hdCells_one zhd) ?_; intro w10 hb10 hg10 hs10)
      refine bodyPost_ret (results_cell_tmp rfl _ _ w.heap.size _ _ _ _ rfl hb10 Try.underlying55 rfl (by rw [h35.out]; exact inf_hd)) rfl ⟨by rw [hdVal, hdErr, hGf.out]; rfl, ?_⟩
      exact grown_below B9 hg10 B9.size (Nat.le_refl _)
    | true =>
      have hGt : Hid (hdGood l = true) := Lib.hid (by rw [hG.out, hcmp]; rfl)
      have heq : X = l := by simpa using hcmp
      have sx' := sx
      rw [heq] at sx'
      clear hE hX hG hX2
      go_wp2_with (first
        | ((with_reducible refine at_load 55 ?_); refine wpList_loadAll _ rfl 55 (.tmp 5) rfl gH 55 (hdCells ⟨vr, sz, nm, d⟩).toArray hb9 _ rfl Try.underlying55 rfl (by rw [h35'.out]; exact inf_hd) ?_)
        | ((with_reducible refine at_store 55 ?_); refine wpList_storeAll _ rfl 55 _ _ rfl w.heap.size 55 _ (hdCells ⟨vr, sz, nm, d⟩).toArray hbR9 rfl rfl (by rw [h35'.out, h35.out]) (by rw [h35'.out]; exact inf_hd) (hdCells_one _) ?_; intro w10 hb10 hg10 hs10))
      refine bodyPost_ret (results_cell_tmp rfl _ _ w.heap.size _ _ _ _ rfl hb10 Try.underlying55 rfl (by rw [h35'.out]; exact inf_hd)) rfl ⟨by rw [hdVal, hdErr, hGt.out, if_pos rfl, if_pos rfl, HRW.out]; rfl, ?_⟩
      exact grown_below B9 hg10 B9.size (Nat.le_refl _)
theorem rHeaderOf_any (A : Option Addr) (n c : Nat) (hc : n ≤ c) (l : List UInt8) (w : World) (h : Rd w w.heap.size 1 A n (bcells l)) :
    Calls Try.prog 32 #[.slice A n c] w fun e w' => e = .returned (.tuple #[.agg (hdCells (hdVal l)).toArray, .int .i64 (hdErr l)]) ∧ Below w.heap.size w w' := by
  by_cases h64 : n = 64
  · subst h64; exact rHeaderOf_64 A c hc l w h
  · exact rHeaderOf_len A n c l h64 w h
end Go.Proofs.Ytnjfghlgknnhmaa
