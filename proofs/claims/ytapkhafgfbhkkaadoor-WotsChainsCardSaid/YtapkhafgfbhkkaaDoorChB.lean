/-
  Walk: wots.Chain.
-/
import Derived.Test.YtapkhafgfbhkkaaDoorChA
import Derived.Test.YtapkhafgfbhkkaaDoorTail
import Derived.Test.YtapkhafgfbhkkaaDoorBuild
namespace Go.Proofs.YtapkhafgfbhkkaaDoor
open Go.RowKit Sha

def zlink : Array Value := linkL ⟨0, 0, 0, 0, 0, 0, 0⟩ znode
theorem zeroLink : ∀ W, (zeroValue 69).run Tryd.prog W = .ok (.agg zlink) W := fun W => by kernel_rfl
theorem linkL_size (x : Ad) (sd : List UInt8) (h : sd.length = 32) : (linkL x sd).size = 39 := by simp [linkL, Ad.cells, bcells_length, h]
theorem infLink : (Tryd.prog.info? 69).map (·.size) = some 39 := by kernel_rfl
theorem linkL_one (x : Ad) (sd : List UInt8) : ∀ v ∈ (linkL x sd).toList, v.oneCell' = true := by
  intro v hv
  simp only [linkL, List.mem_append] at hv
  rcases hv with hv | hv
  · exact x.one v (by simpa using hv)
  · exact bcells_one _ v hv
theorem run_link (w : World) (x : Ad) (sd : List UInt8) (h : sd.length = 32) : (Instr.build 69 #[(0, .agg x.cells), (1, .agg (bcells sd).toArray)]).run Tryd.prog w = .ok (.agg (linkL x sd)) w := by
  have hf : flat [Value.agg x.cells, .agg (bcells sd).toArray] = x.cells.toList ++ bcells sd := by simp [flat, Value.cells]
  have e7 : x.cells.toList.length = 7 := rfl
  have := run_build_rows (P := Tryd.prog) w (t := 69) (z := zlink) #[(0, .agg x.cells), (1, .agg (bcells sd).toArray)] [.agg x.cells, .agg (bcells sd).toArray] [(0, 7), (7, 32)]
    Tryd.underlying69 (by kernel_rfl) (by kernel_rfl) rfl ⟨rfl, by simp [Value.cells]; rfl, rfl, by simp [Value.cells, bcells_length, h], trivial⟩ (by rw [hf, List.length_append, e7, bcells_length, h]; exact Nat.le_of_eq (by kernel_rfl))
  rw [this, hf, List.drop_eq_nil_of_le (by rw [List.length_append, e7, bcells_length, h]; exact Nat.le_of_eq (by kernel_rfl)), List.append_nil]
  rfl

set_option maxRecDepth 100000 in
set_option maxHeartbeats 4000000 in
theorem mchain_any (nd sd : List UInt8) (hnd : nd.length = 32) (hsd : sd.length = 32) (leaf : Nat) (f k c : Nat) (hfk : f + k ≤ 15) (hc : c ≤ 66) (w : World) (hT : Tabs w) :
    Calls Tryd.prog 30 #[.agg (bcells nd).toArray, .int .i64 (f : Int), .int .i64 (k : Int), .agg (bcells sd).toArray, .int .u32 (leaf : Int), .int .i64 (c : Int)] w fun e w' =>
      e = .returned (.agg (bcells (chainN sd leaf c f k nd)).toArray) ∧ Below w.heap.size w w' := by
  have hz := zeroNode
  have hwr : IntKind.u32.wrap (c : Int) = (c : Int) := IntWalk.u32_in _ (by omega)
  have hTl := hT.first.lt
  have hTl2 := hT.rounds.lt
  have h1 : ¬ ((f : Int) < 0) := by omega
  have h2 : ¬ ((k : Int) < 0) := by omega
  have h3 : ¬ (15 < (f : Int)) := by omega
  have h4 : ¬ (15 - (f : Int) < (k : Int)) := by omega
  have h5 : ¬ ((c : Int) < 0) := by omega
  have h6 : ¬ (67 ≤ (c : Int)) := by omega
  have hsub : IntKind.i64.wrap (15 - (f : Int)) = 15 - (f : Int) := by rw [IntKind.wrap_i64]; omega
  have sL := Lib.hid hsd
  have nL := Lib.hid hnd
  clear hsd hnd
  have hb_n := ((Blk.new w 27 (bcells nd).toArray).alloc (.cells (bcells sd).toArray 27)).alloc (.cells zn 27)
  have hb_s := (blk_new1 w (.cells (bcells nd).toArray 27) 27 (bcells sd).toArray).alloc (.cells zn 27)
  have hN := blk_new2 w (.cells (bcells nd).toArray 27) (.cells (bcells sd).toArray 27) 27 zn
  have hBw0 : Below w.heap.size w (((w.alloc (.cells (bcells nd).toArray 27)).alloc (.cells (bcells sd).toArray 27)).alloc (.cells zn 27)) := (((Below.refl _ _).alloc (Nat.le_refl _) _).alloc (by simp) _).alloc (by simp; omega) _
  have hT0 := ((hT.alloc (.cells (bcells nd).toArray 27)).alloc (.cells (bcells sd).toArray 27)).alloc (.cells zn 27)
  go_enter Tryd.func30, Tryd.ntmps30
  go_wp2_with fail
  generalize ((w.alloc (.cells (bcells nd).toArray 27)).alloc (.cells (bcells sd).toArray 27)).alloc (.cells zn 27) = W0 at *
  have hb_n := hb_n.drew
  have hb_s := hb_s.drew
  have hN := hN.drew
  have hBw0 := hBw0.drew
  have hT0 := hT0.drew
  clear hz h1 h2 h3 h4 h5 h6 hsub hT
  refine Reg.wp_region_tail 7 [6] (by kernel_rfl) (by kernel_rfl) (by kernel_rfl) (by kernel_rfl) (by kernel_rfl) ?_
  refine Reg.pass_old 4 (Reg.met_none rfl) (.inl rfl) (by kernel_rfl) (by kernel_rfl) rfl ?_
  refine Reg.pass_old 5 (Reg.met_none rfl) (.inl rfl) (by kernel_rfl) (by kernel_rfl) rfl ?_
  refine Reg.pass_val (.int .u32 (c : Int)) (Reg.met_none rfl) (fun a w hE hS => ?_) ?_
  · have e0 := Reg.see_new 41 1 hS (by kernel_rfl) (by kernel_rfl) rfl rfl
    go_simp; first | done | rfl | (rw [hwr])
  refine Reg.pass_step (Reg.eqs (.agg (otsAd leaf c 0).cells)) (Reg.stable_eqs _) (Reg.met_none rfl) (fun a w hE hS => ?_) ?_
  · have e0 := Reg.see_new 40 0 hS (by kernel_rfl) (by kernel_rfl) rfl rfl
    have e1 := Reg.see_new 42 2 hS (by kernel_rfl) (by kernel_rfl) rfl rfl
    refine Reg.wp_call rfl Tryd.func50 rfl (by kernel_rfl) (by simp [Act.eval, e0, e1]) (ots_any leaf c 0 w) ?_
    rintro e w' ⟨rfl, hB⟩
    exact ⟨_, rfl, _, rfl, hB, rfl⟩
  refine Reg.pass_val (.agg (bcells sd).toArray) (Reg.met_none rfl) (fun a w hE hS => ?_) ?_
  · have e0 := Reg.see_old 9 hS (by kernel_rfl) (by kernel_rfl) rfl
    exact reg_load 27 9 rfl e0 (hb_s.ext hE) Tryd.underlying27 rfl (by rw [List.size_toArray, bcells_length, sL.out]; exact infNode)
  refine Reg.pass_val (.agg (linkL (otsAd leaf c 0) sd)) (Reg.met_none rfl) (fun a w hE hS => ?_) ?_
  · have e0 := Reg.see_new 43 3 hS (by kernel_rfl) (by kernel_rfl) rfl rfl
    have e1 := Reg.see_new 44 4 hS (by kernel_rfl) (by kernel_rfl) rfl rfl
    exact Flow.reg_build _ rfl (by simp [Act.eval, e0, e1]) (run_link w (otsAd leaf c 0) sd sL.out)
  refine Reg.pass_new 69 zlink rfl rfl zeroLink ?_
  refine ⟨fun i hi o ho => ?_, ?_⟩
  · simp only [List.mem_cons, List.not_mem_nil, or_false] at hi
    rcases hi with rfl
    cases ho; exact ⟨_, _, rfl, rfl, zeroLink, rfl⟩
  refine Reg.tail_end [none, none, none, none, none, none, none, none, none, none, none, none, none, some 13, none, none, none, none, none, none, none, none, none, none, none, none, none, none, none, none, none, none, none, none, none, none, none, none, none, none, some 40, some 41, some 42, some 43, some 44, some 45, none, none, none, none, none, none, none, none, none, none, none, none] (by kernel_rfl) ?_
  intro ff w9 hE hf hfr
  have h45 : ff 45 = .agg (linkL (otsAd leaf c 0) sd) := hf 45 5 _ (by kernel_rfl) (by decide) rfl
  obtain ⟨b, h13, hbz⟩ : Reg.newK 69 zlink (ff 13) w9 := hf 13 6 _ (by kernel_rfl) (by decide) rfl
  obtain ⟨b', e13, hlb, _⟩ := hfr 6 (by simp) 13 (by kernel_rfl)
  have gb : W0.drew.heap.size ≤ b := by
    rw [h13] at e13
    simp only [Reg.ptr, Value.pointer.injEq, Option.some.injEq, Addr.mk.injEq, and_true] at e13
    rw [e13]; exact hlb.1
  have gb2 : w.heap.size + 2 < b := Nat.lt_of_lt_of_le hN.lt gb
  have hb_n9 := hb_n.ext hE
  have hN9 := hN.ext hE
  have B9 := hBw0.trans (hE.below hBw0.size)
  have hT9 := hT0.below (hE.below (Nat.le_refl _))
  clear hf hfr hE hb_n hb_s hN hBw0 hT0 e13 hlb gb
  simp only [Reg.sel, h13, h45, List.drop_succ_cons, List.drop_zero]
  have HlL := Lib.hid (linkL_size (otsAd leaf c 0) sd sL.out)
  go_wp2_with ((with_reducible refine at_store 69 ?_); refine wpList_storeAll w9 rfl 69 _ _ rfl b 69 _ (linkL (otsAd leaf c 0) sd) hbz rfl rfl (by rw [HlL.out]; kernel_rfl) (by rw [HlL.out]; exact infLink) (linkL_one _ _) ?_; intro w3 hb3 hg3 hs3)
  have hb_n3 := hb_n9.grown hg3 (by simp; omega)
  have hN3 := hN9.grown hg3 (by simp; omega)
  have hC3 : Chg (fun x => x = b) w9 w3 := Chg.grown hg3 (by rintro j h; cases h; rfl)
  have hT3 : Tabs w3 := ⟨hT9.first.chg hC3 (show ¬ _ = b by omega), hT9.rounds.chg hC3 (show ¬ _ = b by omega)⟩
  have B3 : Below w.heap.size w w3 := grown_below B9 hg3 B9.size (by omega)
  clear hb_n9 hN9 hT9 B9 hg3 hs3 hbz h13 h45 hC3
  go_loopw [47] (fun i wr => ∃ j : Nat, j ≤ k ∧ i = .int .i64 j ∧ Blk wr w.heap.size 27 (bcells (chainN sd leaf c f j nd)).toArray ∧ Blk wr (w.heap.size + 2) 27 zn ∧ Blk wr b 69 (linkL (otsAd leaf c 0) sd) ∧ Below w.heap.size w wr ∧ Tabs wr) (fun i _ => k - (intOf i).toNat)
  case atStart => exact ⟨0, by omega, rfl, hb_n3, hN3, hb3, B3, hT3⟩
  case round =>
    clear hb_n3 hN3 hT3 B3 hb3
    obtain ⟨j, hj, rfl, hA, hN, hL, hB, hTr⟩ := hrel
    obtain ⟨X, hX⟩ : ∃ X, X = chainN sd leaf c f j nd := ⟨_, rfl⟩
    rw [← hX] at hA
    have HXl : Hid (X.length = 32) := Lib.hid (by rw [hX]; exact chainN_length _ _ _ _ _ nL.out j)
    have HX := Lib.hid hX
    clear hX
    by_cases hlt : j < k
    · have hwa : IntKind.i64.wrap ((f : Int) + (j : Int)) = (f : Int) + (j : Int) := by rw [IntKind.wrap_i64]; omega
      obtain ⟨S, hS⟩ : ∃ S, S = stepH (otsAd leaf c (f + j)) sd X := ⟨_, rfl⟩
      have HSl : Hid (S.length = 32) := Lib.hid (by rw [hS]; exact stepH_length _ _ _)
      have HS := Lib.hid hS
      have HC := Lib.hid (show chainN sd leaf c f (j + 1) nd = S by rw [hS, HX.out]; rfl)
      clear hS
      go_wp2_with (first
        | ((with_reducible refine at_load 69 ?_); refine wpList_loadAll _ rfl 69 _ rfl b 69 (linkL (otsAd leaf c 0) sd) hL _ rfl Tryd.underlying69 rfl (by rw [HlL.out]; exact infLink) ?_)
        | ((with_reducible refine at_load 27 ?_); refine wpList_loadAll _ rfl 27 _ rfl w.heap.size 27 (bcells X).toArray hA _ rfl Tryd.underlying27 rfl (by rw [List.size_toArray, bcells_length, HXl.out]; kernel_rfl) ?_))
      refine (linkStep_any (otsAd leaf c 0) sd X sL.out HXl.out (f + j) (by omega) wr hTr).mono ?_
      rintro e w5 ⟨rfl, hB5⟩
      rw [show stepH ((otsAd leaf c 0).withC (f + j)) sd X = S from HS.out.symm]
      have hA5 := hA.below hB5 hA.lt
      have hN5 := hN.below hB5 hN.lt
      have hL5 := hL.below hB5 hL.lt
      have hBr := hB.trans (hB5.mono hB.size)
      have hT5 := hTr.below hB5
      clear hA hN hL hB hTr hB5
      go_wp2_with ((with_reducible refine at_store 27 ?_); refine wpList_storeAll w5 rfl 27 _ _ rfl w.heap.size 27 _ (bcells S).toArray hA5 rfl rfl (by rw [List.size_toArray, List.size_toArray, bcells_length, bcells_length, HSl.out, HXl.out]) (by rw [List.size_toArray, bcells_length, HSl.out]; kernel_rfl) (fun v hv => bcells_one _ v (by simpa using hv)) ?_; intro w6 h6 hg6 hs6)
      have hN6 := hN5.grown hg6 (by simp)
      have hL6 := hL5.grown hg6 (by simp; omega)
      have hC6 : Chg (fun x => x = w.heap.size) w5 w6 := Chg.grown hg6 (by rintro j h; cases h; rfl)
      have hT6 : Tabs w6 := ⟨hT5.first.chg hC6 (show ¬ _ = w.heap.size by omega), hT5.rounds.chg hC6 (show ¬ _ = w.heap.size by omega)⟩
      have hB6 : Below w.heap.size w w6 := grown_below hBr hg6 hBr.size (by omega)
      clear hA5 hN5 hL5 hT5 hBr hg6 hC6
      go_roundw
      case rel => exact ⟨j + 1, by omega, by go_num, by rw [HC.out]; exact h6, hN6, hL6, hB6, hT6⟩
      case measure => simp [intOf]; omega
    · obtain rfl : j = k := by omega
      go_wp2_with (first
        | ((with_reducible refine at_load 27 ?_); refine wpList_loadAll _ rfl 27 _ rfl w.heap.size 27 (bcells X).toArray hA _ rfl Tryd.underlying27 rfl (by rw [List.size_toArray, bcells_length, HXl.out]; kernel_rfl) ?_)
        | ((with_reducible refine at_store 27 ?_); refine wpList_storeAll _ rfl 27 _ _ rfl (w.heap.size + 2) 27 _ (bcells X).toArray hN rfl rfl (by rw [List.size_toArray, bcells_length, HXl.out]; kernel_rfl) (by rw [List.size_toArray, bcells_length, HXl.out]; kernel_rfl) (fun v hv => bcells_one _ v (by simpa using hv)) ?_; intro w5 h5 hg5 hs5))
      refine bodyPost_ret (results_cell_row rfl _ _ (w.heap.size + 2) _ _ _ _ rfl h5 Tryd.underlying27 rfl (by rw [List.size_toArray, bcells_length, HXl.out]; kernel_rfl)) rfl ⟨by rw [HX.out], ?_⟩
      exact grown_below hB hg5 hB.size (by omega)
end Go.Proofs.YtapkhafgfbhkkaaDoor
