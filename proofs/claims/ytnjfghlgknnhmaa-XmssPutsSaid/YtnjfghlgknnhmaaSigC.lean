/-
  Walk: portreeveref04.SigOf of bytes of the right length.
-/
import Derived.Test.YtnjfghlgknnhmaaSigB
namespace Go.Proofs.Ytnjfghlgknnhmaa
open Go.RowKit

def RLoop (w : World) (g idx : Nat) (r l : List UInt8) (k : Nat) (wr : World) : Prop :=
  Below w.heap.size w wr ∧ Blk wr w.heap.size 32 zsig ∧ g < wr.heap.size ∧
  ∃ Ao co A c, Blk wr g 32 (sigCells idx r (.slice Ao (min k 67) co) (.slice A (k - 67) c)).toArray ∧ wr.ownsRow w.heap.size 29 32 (.slice Ao (min k 67) co) (min k 67) (ncells (nodesAt l 0 (min k 67))) ∧
    wr.ownsRow w.heap.size 29 32 (.slice A (k - 67) c) (k - 67) (ncells (nodesAt l 67 (k - 67))) ∧ ∀ b, (Value.slice Ao (min k 67) co).ownBlock = some b → ¬ (Value.slice A (k - 67) c).ownBlock = some b
theorem sg35 (idx : Nat) (r : List UInt8) (v1 v2 : Value) (hr : r.length = 32) : (sigCells idx r v1 v2).toArray.size = 35 := by simp [sigCells, bcells_length, hr]
theorem sg35_set33 (idx : Nat) (r : List UInt8) (v1 v2 v : Value) (hr : r.length = 32) : (sigCells idx r v1 v2).toArray.setIfInBounds 33 v = (sigCells idx r v v2).toArray := by
  have hl : (bcells r).length = 32 := by rw [bcells_length]; exact hr
  simp [sigCells, hl]
theorem sg35_set34 (idx : Nat) (r : List UInt8) (v1 v2 v : Value) (hr : r.length = 32) : (sigCells idx r v1 v2).toArray.setIfInBounds 34 v = (sigCells idx r v1 v).toArray := by
  have hl : (bcells r).length = 32 := by rw [bcells_length]; exact hr
  simp [sigCells, hl]
theorem sig_cell35 {w : World} {g : Nat} {t : TypeId} {i : Nat} {r : List UInt8} {v1 v2 : Value} (hr : r.length = 32) (h : Blk w g t (sigCells i r v1 v2).toArray) :
    w.cell? ⟨g, 0, none⟩ = some (.int .u32 i) ∧ w.cell? ⟨g, 33, none⟩ = some v1 ∧ w.cell? ⟨g, 34, none⟩ = some v2 := by
  have hl : (bcells r).length = 32 := by rw [bcells_length]; exact hr
  refine ⟨?_, ?_, ?_⟩ <;> rw [h.cell] <;> simp [sigCells, hl]
theorem shl_one (h : Nat) (hh : h ≤ 20) : IntKind.u64.wrap (2 ^ h) = ((2 ^ h : Nat) : Int) := by
  have : (2 : Nat) ^ h ≤ 2 ^ 20 := Nat.pow_le_pow_right (by omega) hh
  rw [IntWalk.u64_in _ (by constructor; exact Int.pow_nonneg (by omega); have : ((2 : Int) ^ h) = ((2 ^ h : Nat) : Int) := by rw [Int.natCast_pow]; rfl
                           omega)]
  rw [Int.natCast_pow]; rfl

set_option maxRecDepth 100000 in
set_option maxHeartbeats 8000000 in
theorem rSigOf_in (A : Option Addr) (c0 : Nat) (l : List UInt8) (o : Nat) (w : World) (h : Rd w w.heap.size 1 A l.length (bcells l)) (hc : l.length ≤ c0) (hk : isKind o = true) (hl : l.length = 36 + 32 * (67 + hgt o))
    (idx : Nat) (hidx : idx = rdNum l 0 4 false) (r : List UInt8) (hr : r = (l.drop 4).take 32) :
    Calls Try.prog 20 #[.slice A l.length c0, .int .u32 o] w (SigEnd w l o idx r) := by
  have hh : hgt o ≤ 20 := by unfold hgt; split <;> (try split) <;> (try split) <;> omega
  have rL : Hid (r.length = 32) := Lib.hid (by rw [hr]; simp; omega)
  have hi32 : idx < 4294967296 := by rw [hidx]; exact rdNum_lt l 0 4 false
  have HR := Lib.hid hr
  have HI := Lib.hid hidx
  have HL := Lib.hid hl
  have hl36 : 36 ≤ l.length := by omega
  have hlt : l.length ≤ 1000000 := by omega
  have hlen : (36 : Int) + 32 * (67 + (hgt o : Nat)) = (l.length : Nat) := by omega
  have hb35 := fun W => run_sig35 idx r W rL.out
  have hw := shl_one (hgt o) hh
  obtain ⟨p2, hp2⟩ : ∃ p2, p2 = 2 ^ hgt o := ⟨_, rfl⟩
  rw [← hp2] at hw
  have HP := Lib.hid hp2
  clear hr hidx hl hp2
  go_enter Try.func20, Try.ntmps20
  go_wp2_with fail
  change Calls _ _ _ (w.alloc (.cells zsig 32)) _
  have B0 : Below w.heap.size w (w.alloc (.cells zsig 32)) := (Below.refl _ _).alloc (Nat.le_refl _) _
  have hb0 := Blk.new w 32 zsig
  have s0 : Hid ((w.alloc (.cells zsig 32)).heap.size = w.heap.size + 1) := Lib.hid (by simp)
  generalize w.alloc (.cells zsig 32) = W0 at *
  refine (rHeight_any o W0).mono ?_
  rintro e w' ⟨rfl, rfl⟩
  rw [hk]
  go_wp2_with fail
  refine (number_any A l.length c0 0 false l W0 4 ((h.below B0).more B0.size) hlt (by omega) (by omega)).mono ?_
  rintro e w' ⟨rfl, rfl⟩
  rw [← HI.out]
  by_cases hb : idx < p2
  · have hbi : ¬ (p2 : Int) ≤ (idx : Int) := by omega
    have h4 : ¬ c0 = 4 := by omega
    have c36 : (36 : Int) ≤ (c0 : Int) := by omega
    have hrr : Rd W0 w.heap.size 1 (A.map fun x => ⟨x.block, x.off + 4, none⟩) 32 (bcells r) := by
      have := (h.at_ 4 32 (by omega) (by omega)).below B0
      rw [HR.out]; exact this
    obtain ⟨rb, ro, hA4, _, hrange⟩ := hrr.range (by omega)
    have hl32 : Hid ((bcells r).length = 32) := Lib.hid (by rw [bcells_length]; exact rL.out)
    have harr := fun W => run_arrayAt (P := Try.prog) W Try.underlying29 (some ⟨rb, ro, none⟩) 32 (c0 - 4) (Nat.le_refl _)
    have hsg := Blk.new W0 32 zsig
    have hk35 : Hid ((sigCells idx r (.slice none 0 0) (.slice none 0 0)).toArray.size = 35) := Lib.hid (by simp [sigCells, bcells_length, rL.out])
    have hz35 : Hid (zsig.size = 35) := Lib.hid (by kernel_rfl)
    have hcv : IntKind.u32.wrap (idx : Int) = (idx : Int) := IntWalk.u32_in _ (by omega)
    clear hrr
    go_wp2_with (first
      | ((with_reducible refine at_load 29 ?_); refine wpList_load_mid rfl 29 _ rfl rb ro rfl (bcells r) _ hrange Try.underlying29 rfl (by rw [hl32.out]; exact infNode) ?_)
      | ((with_reducible refine at_build 32 ?_); refine wpList_buildV W0 rfl #[(0, .int .u32 idx), (1, .agg (bcells r).toArray)] rfl ?_ (hb35 W0) ?_; (simp [Act.eval, Act.put]))
      | ((with_reducible refine at_store 32 ?_); refine wpList_storeAll _ rfl 32 _ _ rfl W0.heap.size 32 _ (sigCells idx r (.slice none 0 0) (.slice none 0 0)).toArray hsg rfl rfl (by rw [hk35.out, hz35.out]) (by rw [hk35.out]; exact inf35) (sg35_one _ _ _ _ rfl rfl) ?_; intro W3 hb3 hg3 hs3))
    have HS0 := s0.out
    have hg1 : w.heap.size < W0.heap.size := by omega
    have B3 := grown_below (B0.alloc B0.size (.cells zsig 32)) hg3 (by simp; omega) B0.size
    have hz3 := (hb0.alloc (.cells zsig 32)).grown hg3 (by simp; omega)
    have hk3 : W0.heap.size < W3.heap.size := by rw [hs3]; simp
    have start : RLoop w W0.heap.size idx r l 0 W3 := ⟨B3, hz3, hk3, none, 0, none, 0, hb3, World.ownsRow_nil _ _ _ _, World.ownsRow_nil _ _ _ _, fun b h => by cases h⟩
    have hgzw : ¬ W0.heap.size = w.heap.size := by omega
    have hg0 : w.heap.size ≤ W0.heap.size := by omega
    generalize W0.heap.size = g at *
    clear hsg hrange hg3 hs3 B3 hz3 hk3 hb3 hb0 s0 HS0 B0 harr hb35 hw hcv
    go_loopw [11] (fun i wr => ∃ k : Nat, k ≤ 67 + hgt o ∧ i = .int .i64 k ∧ RLoop w g idx r l k wr) (fun i _ => 100 - (intOf i).toNat)
    case atStart => exact ⟨0, by omega, rfl, start⟩
    case round =>
      obtain ⟨k, hkk, rfl, hB9, hZ, hgl, Ao, co, A2, c2, hS, hO, hO2, hoo⟩ := hrel
      by_cases hlt : k < 67 + hgt o
      · have hnd0 := ((h.at_ (36 + 32 * k) 32 (by have := HL.out; omega) (by omega)).below hB9)
        obtain ⟨nd, hnde⟩ : ∃ nd, nd = nodeAt l k := ⟨_, rfl⟩
        have e1 : (l.drop (36 + 32 * k)).take 32 = nd := by rw [hnde, nodeAt]
        rw [e1] at hnd0
        have ndL : Hid (nd.length = 32) := Lib.hid (by rw [hnde]; exact nodeAt_length l k (by have := HL.out; omega))
        obtain ⟨rb, ro, hA5, _, hrange⟩ := hnd0.range (by omega)
        have hlnd : Hid ((bcells nd).length = 32) := Lib.hid (by rw [bcells_length]; exact ndL.out)
        have hck : ¬ c0 = 36 + 32 * k := by have := HL.out; omega
        have c68 : (68 : Int) + 32 * (k : Int) ≤ (c0 : Int) := by have := HL.out; omega
        have HND := Lib.hid hnde
        clear hnde e1 hnd0
        have efn : (fun x : Addr => (⟨x.block, x.off + (36 + 32 * k), none⟩ : Addr)) = fun x => x.add (36 + 32 * k) := by
          funext x; unfold Addr.add; rw [if_neg (by omega)]
        rw [efn] at hA5
        have hsub : 68 + 32 * k - (36 + 32 * k) = 32 := by omega
        have harr := fun W => run_arrayAt (P := Try.prog) W Try.underlying29 (some ⟨rb, ro, none⟩) 32 (c0 - (36 + 32 * k)) (Nat.le_refl _)
        have hnb := Blk.new wr 29 (bcells zeroNode0).toArray
        have hz32 : Hid ((bcells zeroNode0).toArray.size = 32) := Lib.hid rfl
        clear efn
        have hgz : ¬ g = w.heap.size := fun e => hgzw e
        by_cases h67 : k < 67
        · have em : min k 67 = k := by omega
          have em2 : k - 67 = 0 := by omega
          simp only [em, em2] at hS hO hO2 hoo
          clear em em2
          have hog : ¬ (Value.slice Ao k co).ownBlock = some g := fun e => own_ne hO hS (by decide) e rfl
          have hoz : ¬ (Value.slice Ao k co).ownBlock = some w.heap.size := fun e => own_ne hO hZ (by decide) e rfl
          have hog2 : ¬ (Value.slice A2 0 c2).ownBlock = some g := fun e => own_ne hO2 hS (by decide) e rfl
          have hw1 : w.heap.size ≤ wr.heap.size := hB9.size
          have hlo := fun b hb => (own_some hO (b := b) hb).2
          have hlo2 := fun b hb => (own_some hO2 (b := b) hb).2
          have HLO := Lib.hid hlo
          have HLO2 := Lib.hid hlo2
          have hzl := hZ.lt
          clear hlo hlo2
          have hk100 : k ≤ 100000 := by omega
          go_wp2_with (first
            | ((with_reducible refine at_load 29 ?_); refine wpList_load_mid rfl 29 _ rfl rb ro rfl (bcells nd) _ hrange Try.underlying29 rfl (by rw [hlnd.out]; exact infNode) ?_)
            | ((with_reducible refine at_store 29 ?_); refine wpList_storeAll _ rfl 29 _ _ rfl wr.heap.size 29 _ (bcells nd).toArray hnb rfl rfl (by rw [List.size_toArray, hlnd.out]; rfl) (by rw [List.size_toArray, hlnd.out]; exact infNode) (by simpa using bcells_one nd) ?_; intro W3 hb3 hg3 hs3;
                have hC3 := (Chg.of_ext (Z := fun b => b = wr.heap.size) ((Ext.refl wr).alloc (.cells (bcells zeroNode0).toArray 29))).trans (Chg.grown hg3 (by rintro k h; cases h; rfl));
                have hS3 := hS.chg hC3 (by show ¬ _ = _; omega); have c33 := (sig_cell35 rL.out hS3).2.1; have hO3 := own_chg hO hC3 (fun b hb e => by have := HLO.out b hb; have e2 : b = wr.heap.size := e; omega); clear hs3)
            | ((with_reducible refine at_load 29 ?_); refine wpList_loadAll W3 rfl 29 _ rfl wr.heap.size 29 (bcells nd).toArray hb3 _ rfl Try.underlying29 rfl (by rw [List.size_toArray, hlnd.out]; exact infNode) ?_)
            | ((with_reducible refine at_buildSlice 30 ?_); refine wpList_runV rfl (Flow.reg_buildSlice #[(0, .agg (bcells nd).toArray)] rfl ?_ (run_node1 W3 nd ndL.out)) ?_; (simp [Act.eval, Act.put]))
            | ((with_reducible refine at_append ?_); refine wpList_appNode W3 rfl _ _ rfl w.heap.size Ao k co (nodesAt l 0 k) nd ndL.out rfl hO3 rfl hk100 (Nat.le_trans hw1 hC3.size) ?_; intro A5 c5 W5 hO5 hC5 hB5 hob5; have hS5 := hS3.chg hC5 hog)
            | ((with_reducible refine at_store 30 ?_); refine wpList_runS rfl (reg_storeSlice rfl (by kernel_rfl) hS5 rfl rfl (by rw [sg35 _ _ _ _ rL.out]; omega)) ?_))
          have hZ5 := (hZ.chg hC3 (by show ¬ _ = _; omega)).chg hC5 hoz
          have B5 := (hB9.trans (hC3.below (n := w.heap.size) (fun j e => by have e2 : j = wr.heap.size := e; omega) hw1)).trans hB5
          have hO6 := own_chg hO5 (Chg.grown (Z := fun b => b = g) (grown_set W5 g 33 (.slice A5 (k + 1) c5)) (by rintro j h; cases h; rfl)) (fun b hb e => own_ne hO5 hS5 (by decide) hb e)
          have hO7 := own_chg (own_chg (own_chg hO2 hC3 (fun b hb e => by have := HLO2.out b hb; have e2 : b = wr.heap.size := e; omega)) hC5 (fun b hb e => hoo b e hb)) (Chg.grown (Z := fun b => b = g) (grown_set W5 g 33 (.slice A5 (k + 1) c5)) (by rintro j h; cases h; rfl)) (fun b hb e => hog2 (e ▸ hb))
          have hS6 := hS5.set_ 33 (.slice A5 (k + 1) c5)
          rw [sg35_set33 _ _ _ _ _ rL.out] at hS6
          have nxt : RLoop w g idx r l (k + 1) (W5.setCell ⟨g, 33, none⟩ (.slice A5 (k + 1) c5)) := by
            refine ⟨B5.setCell (p := ⟨g, 33, none⟩) hg0 _, hZ5.far (fun e => hgz e.symm) _, by simpa using hS5.lt, A5, c5, A2, c2, ?_, ?_, ?_, ?_⟩
            · rw [show min (k + 1) 67 = k + 1 by omega, show k + 1 - 67 = 0 by omega]; exact hS6
            · rw [show min (k + 1) 67 = k + 1 by omega, nodesAt_succ, Nat.zero_add, ← HND.out]; exact hO6
            · rw [show k + 1 - 67 = 0 by omega]; exact hO7
            · rw [show min (k + 1) 67 = k + 1 by omega, show k + 1 - 67 = 0 by omega]
              intro b hb1 hb2
              rcases hob5 b hb1 with h5 | h5
              · exact hoo b h5 hb2
              · have := HLO2.out b hb2
                have := hC3.size
                omega
          clear hZ5 B5 hO6 hO7 hS6 hO5 hC5 hB5 hob5 hS5 hC3 hS3 c33 hO3 hb3 hg3 hS hO hO2 hoo hZ hB9
          go_roundw
          case rel => exact ⟨k + 1, by omega, by go_num, nxt⟩
          case measure => simp [intOf]; omega
        · have em : min k 67 = 67 := by omega
          obtain ⟨q, rfl⟩ : ∃ q, k = 67 + q := ⟨k - 67, by omega⟩
          have em2 : 67 + q - 67 = q := by omega
          simp only [em, em2] at hS hO hO2 hoo
          clear em em2
          have hog : ¬ (Value.slice A2 q c2).ownBlock = some g := fun e => own_ne hO2 hS (by decide) e rfl
          have hoz : ¬ (Value.slice A2 q c2).ownBlock = some w.heap.size := fun e => own_ne hO2 hZ (by decide) e rfl
          have hog2 : ¬ (Value.slice Ao 67 co).ownBlock = some g := fun e => own_ne hO hS (by decide) e rfl
          have hw1 : w.heap.size ≤ wr.heap.size := hB9.size
          have hlo := fun b hb => (own_some hO2 (b := b) hb).2
          have hlo2 := fun b hb => (own_some hO (b := b) hb).2
          have HLO := Lib.hid hlo
          have HLO2 := Lib.hid hlo2
          have hzl := hZ.lt
          clear hlo hlo2
          have hk100 : q ≤ 100000 := by omega
          go_wp2_with (first
            | ((with_reducible refine at_load 29 ?_); refine wpList_load_mid rfl 29 _ rfl rb ro rfl (bcells nd) _ hrange Try.underlying29 rfl (by rw [hlnd.out]; exact infNode) ?_)
            | ((with_reducible refine at_store 29 ?_); refine wpList_storeAll _ rfl 29 _ _ rfl wr.heap.size 29 _ (bcells nd).toArray hnb rfl rfl (by rw [List.size_toArray, hlnd.out]; rfl) (by rw [List.size_toArray, hlnd.out]; exact infNode) (by simpa using bcells_one nd) ?_; intro W3 hb3 hg3 hs3;
                have hC3 := (Chg.of_ext (Z := fun b => b = wr.heap.size) ((Ext.refl wr).alloc (.cells (bcells zeroNode0).toArray 29))).trans (Chg.grown hg3 (by rintro k h; cases h; rfl));
                have hS3 := hS.chg hC3 (by show ¬ _ = _; omega); have c34 := (sig_cell35 rL.out hS3).2.2; have hO3 := own_chg hO2 hC3 (fun b hb e => by have := HLO.out b hb; have e2 : b = wr.heap.size := e; omega); clear hs3)
            | ((with_reducible refine at_load 29 ?_); refine wpList_loadAll W3 rfl 29 _ rfl wr.heap.size 29 (bcells nd).toArray hb3 _ rfl Try.underlying29 rfl (by rw [List.size_toArray, hlnd.out]; exact infNode) ?_)
            | ((with_reducible refine at_buildSlice 30 ?_); refine wpList_runV rfl (Flow.reg_buildSlice #[(0, .agg (bcells nd).toArray)] rfl ?_ (run_node1 W3 nd ndL.out)) ?_; (simp [Act.eval, Act.put]))
            | ((with_reducible refine at_append ?_); refine wpList_appNode W3 rfl _ _ rfl w.heap.size A2 q c2 (nodesAt l 67 q) nd ndL.out rfl hO3 rfl hk100 (Nat.le_trans hw1 hC3.size) ?_; intro A5 c5 W5 hO5 hC5 hB5 hob5; have hS5 := hS3.chg hC5 hog)
            | ((with_reducible refine at_store 30 ?_); refine wpList_runS rfl (reg_storeSlice rfl (by kernel_rfl) hS5 rfl rfl (by rw [sg35 _ _ _ _ rL.out]; omega)) ?_))
          have hZ5 := (hZ.chg hC3 (by show ¬ _ = _; omega)).chg hC5 hoz
          have B5 := (hB9.trans (hC3.below (n := w.heap.size) (fun j e => by have e2 : j = wr.heap.size := e; omega) hw1)).trans hB5
          have hO6 := own_chg hO5 (Chg.grown (Z := fun b => b = g) (grown_set W5 g 34 (.slice A5 (q + 1) c5)) (by rintro j h; cases h; rfl)) (fun b hb e => own_ne hO5 hS5 (by decide) hb e)
          have hO7 := own_chg (own_chg (own_chg hO hC3 (fun b hb e => by have := HLO2.out b hb; have e2 : b = wr.heap.size := e; omega)) hC5 (fun b hb e => hoo b hb e)) (Chg.grown (Z := fun b => b = g) (grown_set W5 g 34 (.slice A5 (q + 1) c5)) (by rintro j h; cases h; rfl)) (fun b hb e => hog2 (e ▸ hb))
          have hS6 := hS5.set_ 34 (.slice A5 (q + 1) c5)
          rw [sg35_set34 _ _ _ _ _ rL.out] at hS6
          have nxt : RLoop w g idx r l (67 + q + 1) (W5.setCell ⟨g, 34, none⟩ (.slice A5 (q + 1) c5)) := by
            refine ⟨B5.setCell (p := ⟨g, 34, none⟩) hg0 _, hZ5.far (fun e => hgz e.symm) _, by simpa using hS5.lt, Ao, co, A5, c5, ?_, ?_, ?_, ?_⟩
            · rw [show min (67 + q + 1) 67 = 67 by omega, show 67 + q + 1 - 67 = q + 1 by omega]; exact hS6
            · rw [show min (67 + q + 1) 67 = 67 by omega]; exact hO7
            · rw [show 67 + q + 1 - 67 = q + 1 by omega, nodesAt_succ, ← HND.out]; exact hO6
            · rw [show min (67 + q + 1) 67 = 67 by omega, show 67 + q + 1 - 67 = q + 1 by omega]
              intro b hb1 hb2
              rcases hob5 b hb2 with h5 | h5
              · exact hoo b hb1 h5
              · have := HLO2.out b hb1
                have := hC3.size
                omega
          clear hZ5 B5 hO6 hO7 hS6 hO5 hC5 hB5 hob5 hS5 hC3 hS3 c34 hO3 hb3 hg3 hS hO hO2 hoo hZ hB9
          go_roundw
          case rel => exact ⟨67 + q + 1, by omega, by go_num, nxt⟩
          case measure => simp [intOf]; omega
      · obtain rfl : k = 67 + hgt o := by omega
        simp only [show min (67 + hgt o) 67 = 67 by omega, show 67 + hgt o - 67 = hgt o by omega] at hS hO hO2 hoo
        have r1 := hO
        have r2 := hO2
        have l1 := Flow.own_le hO
        have l2 := Flow.own_le hO2
        have hk35' : Hid ((sigCells idx r (.slice Ao 67 co) (.slice A2 (hgt o) c2)).toArray.size = 35) := Lib.hid (by simp [sigCells, bcells_length, rL.out])
        have hs9 := hB9.size
        clear hO hO2 hoo
        go_wp2_with (first
          | ((with_reducible refine at_load 32 ?_); refine wpList_loadAll wr rfl 32 _ rfl g 32 _ hS _ rfl Try.underlying32 rfl (by rw [hk35'.out]; exact inf35) ?_)
          | ((with_reducible refine at_store 32 ?_); refine wpList_storeAll wr rfl 32 _ _ rfl w.heap.size 32 _ (sigCells idx r (.slice Ao 67 co) (.slice A2 (hgt o) c2)).toArray hZ rfl rfl (by rw [hk35'.out, hz35.out]) (by rw [hk35'.out]; exact inf35) (sg35_one _ _ _ _ rfl rfl) ?_; intro W5 hb5 hg5 hs5))
        refine bodyPost_ret (results_cell_tmp rfl _ _ w.heap.size _ _ _ _ rfl hb5 Try.underlying32 rfl (by rw [hk35'.out]; exact inf35)) rfl ?_
        unfold SigEnd
        rw [if_pos (by rw [← HP.out]; exact hb)]
        refine ⟨Ao, co, A2, c2, rfl, l1, l2, ?_, ?_, grown_below hB9 hg5 hB9.size (Nat.le_refl _)⟩
        · exact Rd.of_own (own_chg r1 (Chg.grown (Z := fun b => b = w.heap.size) hg5 (by rintro k h; cases h; rfl)) (fun b hb e => own_ne r1 hZ (by decide) hb e))
        · exact Rd.of_own (own_chg r2 (Chg.grown (Z := fun b => b = w.heap.size) hg5 (by rintro k h; cases h; rfl)) (fun b hb e => own_ne r2 hZ (by decide) hb e))
  · have hbi : (p2 : Int) ≤ (idx : Int) := by omega
    have hz35 : Hid (zsig.size = 35) := Lib.hid (by kernel_rfl)
    have hs0 := s0.out
    clear s0
    have HS0 := Lib.hid hs0
    clear hs0
    go_wp2_with ((with_reducible refine at_store 32 ?_); refine wpList_storeAll W0 rfl 32 _ _ rfl w.heap.size 32 _ zsig hb0 rfl rfl rfl (by rw [hz35.out]; exact inf35) (by decide) ?_; intro W5 hb5 hg5 hs5)
    refine bodyPost_ret (results_cell_tmp rfl _ _ w.heap.size _ _ _ _ rfl hb5 Try.underlying32 rfl (by rw [hz35.out]; exact inf35)) rfl ?_
    unfold SigEnd
    rw [if_neg (by rw [← HP.out]; exact hb)]
    exact ⟨rfl, grown_below B0 hg5 B0.size (Nat.le_refl _)⟩
end Go.Proofs.Ytnjfghlgknnhmaa
