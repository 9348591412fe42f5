/-
  Walk: the law LoadSigned.
-/
import Derived.Test.YtipdmhppadapkaaGreatDoorLdL
namespace Go.Proofs.YtipdmhppadapkaaGreatDoor
open Go.RowKit Sha

theorem node_zero (w : World) : (Instr.build 39 #[]).run Tryz.prog w = .ok (.agg (bcells z32).toArray) w := by kernel_rfl
/-- what a good verdict tells -/
theorem good_of {l : List UInt8} {g : Gu} {c : Ctr} (h : vErr l g c = 0) : getE l g.off g.len = 0 ∧ splGood (gReg l g) (gOid g) = true ∧ verErr g.key ((gReg l g).take 64) (((gReg l g).drop 64).take (sigSize (gOid g))) = 0 ∧
    gHd l g = hdVal ((gReg l g).take 64) ∧ gPay l g = (gReg l g).drop (64 + sigSize (gOid g)) ∧ Sha.sum (gPay l g) = (gHd l g).dig ∧ c.err = 0 ∧ c.val ≤ (gHd l g).ver := by
  have h0 := firstE_ok h
  have a0 : e0 l g = 0 := h0 0 (by omega)
  have a1 : e1 l g = 0 := h0 1 (by omega)
  have a2 : e2 l g = 0 := h0 2 (by omega)
  have a5 : e5 c = 0 := h0 5 (by omega)
  have a6 : e6 l g c = 0 := h0 6 (by omega)
  have b0 : getE l g.off g.len = 0 := by
    unfold e0 at a0
    by_cases hg : getE l g.off g.len = 0
    · exact hg
    · rw [if_pos hg] at a0; exact absurd a0 hg
  have b1 : splGood (gReg l g) (gOid g) = true := by
    unfold e0 at a0
    rw [if_neg (by simpa using b0)] at a0
    unfold splErr at a0
    cases hs : splGood (gReg l g) (gOid g) with
    | true => rfl
    | false =>
      rw [hs] at a0
      simp only [Bool.false_eq_true, if_false] at a0
      split at a0 <;> cases a0
  have b2 : gHd l g = hdVal ((gReg l g).take 64) := by unfold gHd splHd; rw [if_pos b1]
  have b3 : gPay l g = (gReg l g).drop (64 + sigSize (gOid g)) := by unfold gPay splC; rw [if_pos b1]
  refine ⟨b0, b1, ?_, b2, b3, ?_, ?_, ?_⟩
  · unfold e1 splA splB at a1
    rwa [if_pos b1, if_pos b1] at a1
  · unfold e2 at a2
    by_cases hs : Sha.sum (gPay l g) = (gHd l g).dig
    · exact hs
    · rw [if_neg hs] at a2; cases a2
  · unfold e5 at a5
    by_cases hs : c.err = 0
    · exact hs
    · rw [if_neg hs] at a5; cases a5
  · unfold e6 at a6
    by_cases hs : c.val ≤ (gHd l g).ver
    · exact hs
    · rw [if_neg hs] at a6; cases a6

set_option maxRecDepth 100000 in
set_option maxHeartbeats 4000000 in
theorem loadSigned_walk (w : World) (hT : Tabs w) (A : Option Addr) (n k : Nat) (l : List UInt8) (hR : Rd w w.heap.size 1 A n (bcells l)) (hnk : n ≤ k) (_hk : k ≤ 9223372036854775807) (g : Gu) (ok : g.ok w w.heap.size) (c : Ctr) (_okc : c.ok) :
    Calls Tryz.prog 5 #[.slice A n k, .agg g.cells.toArray, .agg c.cells] w fun e w' => e = .returned (.bool true) ∧ Below w.heap.size w w' := by
  have hl : n = l.length := by have := hR.len; rw [bcells_length] at this; omega
  have HL := Lib.hid hl
  have HK := Lib.hid ok.key
  have hA := blk2a w (.cells c.cells 34) 31 g.cells.toArray
  have hB := blk2b w (.cells g.cells.toArray 31) 34 c.cells
  have B1 : Below w.heap.size w ((w.alloc (.cells g.cells.toArray 31)).alloc (.cells c.cells 34)) := ((Below.refl _ _).alloc (Nat.le_refl _) _).alloc (by simp) _
  clear hl
  go_enter Tryz.func5, Tryz.ntmps5
  go_wp2_with fail
  have haw := awake26 ((w.alloc (.cells g.cells.toArray 31)).alloc (.cells c.cells 34)) (hT.below B1)
  generalize (w.alloc (.cells g.cells.toArray 31)).alloc (.cells c.cells 34) = W1 at *
  refine Calls.mono haw ?_
  rintro e W2 ⟨rfl, hB2⟩
  have hA2 := hA.below hB2 hA.lt
  have hb2 := hB.below hB2 hB.lt
  have B2 := B1.trans (hB2.mono B1.size)
  have hfew := few_any26 g HK.out W2
  clear haw hA hB B1 hB2
  by_cases hbig : 20000 < n
  · have hdb : decide (20000 < (n : Int)) = true := decide_eq_true (by omega)
    go_wp2_with fail
    go_ret
    exact ⟨rfl, B2⟩
  have hdb : decide (20000 < (n : Int)) = false := decide_eq_false (by omega)
  go_wp2_with ((with_reducible refine at_load 31 ?_); refine wpList_loadAllW _ rfl 31 _ rfl w.heap.size 31 g.cells.toArray hA2 _ rfl Tryz.underlying31 rfl (by rw [List.size_toArray, g.cells_length HK.out]; exact inf_gu) ?_)
  have hn5 : n ≤ 1000000 := by omega
  have hl5 : l.length ≤ 1000000 := by rw [← HL.out]; exact hn5
  refine Calls.mono hfew ?_
  rintro e W3 ⟨rfl, hB3⟩
  have hA3 := hA2.below hB3 hA2.lt
  have hb3 := hb2.below hB3 hb2.lt
  have B3 := B2.trans (hB3.mono B2.size)
  clear hfew hA2 hb2 B2 hB3
  cases fewB g with
  | false =>
    go_wp2_with fail
    go_ret
    exact ⟨rfl, B3⟩
  | true =>
    have hB3 := hb3
    have hR3 := (hR.below B3).more B3.size
    have hT3 := hT.below B3
    have ok3 := ok.below B3 B3.size
    have hck := fun W (ok : g.ok W W.heap.size) (hT : Tabs W) f hF => lcheck_new f l hl5 g c W ok hF hT
    have hD := vDig_length l g c
    unfold CkRetU at hck
    obtain ⟨E, hE⟩ : ∃ E, vErr l g c = E := ⟨_, rfl⟩
    obtain ⟨V, hV⟩ : ∃ V, vVer l g c = V := ⟨_, rfl⟩
    obtain ⟨D, hDD⟩ : ∃ D, vDig l g c = D := ⟨_, rfl⟩
    obtain ⟨PL, hPL⟩ : ∃ P, vPay l g c = P := ⟨_, rfl⟩
    rw [hE, hV, hDD, hPL] at hck
    rw [hDD] at hD
    have HE := Lib.hid hE
    have HV := Lib.hid hV
    have HDD := Lib.hid hDD
    have HPL := Lib.hid hPL
    have HD := Lib.hid hD
    clear hE hV hDD hPL
    go_wp2_with fail
    refine Reg.wp_region_tail 6 [5] (by kernel_rfl) (by kernel_rfl) (by kernel_rfl) (by kernel_rfl) (by kernel_rfl) ?_
    refine Reg.pass_old (X := .slice A n k) 0 (Reg.met_none rfl) (.inl rfl) (by kernel_rfl) (by kernel_rfl) rfl ?_
    refine Reg.pass_step (fun v W => ∃ f, v = .pointer (some ⟨f, 0, none⟩) ∧ FL W f l) (fun _ _ _ ⟨f, h1, h2⟩ h => ⟨f, h1, h2.below h⟩) (Reg.met_none rfl) (fun a W hE hS => ?_) ?_
    · have e0 := Reg.see_new 23 0 hS (by kernel_rfl) (by kernel_rfl) rfl rfl
      refine Reg.wp_call rfl Tryz.func11 rfl (by kernel_rfl) (by simp [Act.eval, e0]) (burn_any A n k l hn5 W ((hR3.below ((Below.refl W3.heap.size W3).drew.trans (hE.below (Nat.le_refl _)))).more (((Below.refl W3.heap.size W3).drew.trans (hE.below (Nat.le_refl _)))).size)) ?_
      rintro e w' ⟨f, rfl, h1, h2, hB⟩
      exact ⟨_, rfl, _, rfl, hB, f, rfl, h2⟩
    refine Reg.pass_val (.agg g.cells.toArray) (Reg.met_none rfl) (fun a W hE hS => ?_) ?_
    · have e0 := Reg.see_old 4 hS (by kernel_rfl) (by kernel_rfl) rfl
      exact reg_load 31 _ rfl e0 (hA3.below ((Below.refl W3.heap.size W3).drew.trans (hE.below (Nat.le_refl _))) hA3.lt) Tryz.underlying31 rfl (by rw [List.size_toArray, g.cells_length HK.out]; exact inf_gu)
    refine Reg.pass_val (.agg c.cells) (Reg.met_none rfl) (fun a W hE hS => ?_) ?_
    · have e0 := Reg.see_old 5 hS (by kernel_rfl) (by kernel_rfl) rfl
      exact reg_load 34 _ rfl e0 (hB3.below ((Below.refl W3.heap.size W3).drew.trans (hE.below (Nat.le_refl _))) hB3.lt) Tryz.underlying34 rfl inf_ct
    refine Reg.pass_step (fun v W => ∃ A k, v = .agg (vdCells E V D A PL.length k).toArray ∧ ((PL.length ≤ k ∧ k ≤ 9223372036854775807) ∧ Rd W W.heap.size 1 A PL.length (bcells PL) ∧ IsU8 W A)) (fun _ _ _ ⟨A, k, h1, h2, h3, h4⟩ h => ⟨A, k, h1, h2, h3.ext h, h4.below h⟩) (Reg.met_none rfl) (fun a W hE hS => ?_) ?_
    · obtain ⟨f0, e0, q0⟩ := Reg.see_kind 24 1 hS (by kernel_rfl) (by kernel_rfl) rfl rfl
      have e1 := Reg.see_new 25 2 hS (by kernel_rfl) (by kernel_rfl) rfl rfl
      have e2 := Reg.see_new 26 3 hS (by kernel_rfl) (by kernel_rfl) rfl rfl
      refine Reg.wp_call rfl Tryz.func10 rfl (by kernel_rfl) (by simp [Act.eval, e0, e1, e2]) (hck W (ok3.below ((Below.refl W3.heap.size W3).drew.trans (hE.below (Nat.le_refl _))) (((Below.refl W3.heap.size W3).drew.trans (hE.below (Nat.le_refl _)))).size) (hT3.below ((Below.refl W3.heap.size W3).drew.trans (hE.below (Nat.le_refl _)))) f0 q0) ?_
      rintro e w' ⟨A, k, rfl, h1, h2, hB, h3⟩
      exact ⟨_, rfl, _, rfl, hB, A, k, rfl, h1, h2, h3⟩
    refine Reg.pass_new 41 vdz rfl rfl zeroVd ?_
    refine ⟨fun i hi o ho => ?_, ?_⟩
    · simp only [List.mem_cons, List.not_mem_nil, or_false] at hi
      rcases hi with rfl
      · cases ho; exact ⟨_, _, rfl, rfl, zeroVd, rfl⟩
    refine Reg.tail_end [none, none, none, none, none, none, none, some 7, none, none, none, none, none, none, none, none, none, none, none, none, none, none, none, some 23, some 24, some 25, some 26, some 27, none, none, none, none, none, none, none, none, none, none, none, none, none, none, none, none, none, none, none, none, none, none, none, none, none, none, none, none, none, none, none, none, none, none, none, none, none, none, none, none, none, none, none, none, none, none, none, none, none, none, none, none, none, none, none, none, none, none, none, none, none, none, none, none, none, none, none, none, none, none, none, none, none, none, none, none, none, none, none, none, none, none, none, none, none, none, none, none, none, none, none, none, none, none, none, none, none] (by kernel_rfl) ?_
    intro ff w9 hE hf hfr
    obtain ⟨b7, h7, hz7⟩ : Reg.newK 41 vdz (ff 7) w9 := hf 7 5 _ (by kernel_rfl) (by decide) rfl
    obtain ⟨b7', e7', hl7, hd7⟩ := hfr 5 (by simp) 7 (by kernel_rfl)
    have h23 : ff 23 = _ := hf 23 0 _ (by kernel_rfl) (by decide) rfl
    have h25 : ff 25 = _ := hf 25 2 _ (by kernel_rfl) (by decide) rfl
    have h26 : ff 26 = _ := hf 26 3 _ (by kernel_rfl) (by decide) rfl
    obtain ⟨A27, k27, h27, q27⟩ : (fun v W => ∃ A k, v = .agg (vdCells E V D A PL.length k).toArray ∧ ((PL.length ≤ k ∧ k ≤ 9223372036854775807) ∧ Rd W W.heap.size 1 A PL.length (bcells PL) ∧ IsU8 W A)) (ff 27) w9 := hf 27 4 _ (by kernel_rfl) (by decide) rfl
    have g7 : (W3.heap.size) ≤ b7 := by
      rw [h7] at e7'
      simp only [Reg.ptr, Value.pointer.injEq, Option.some.injEq, Addr.mk.injEq, and_true] at e7'
      rw [e7']; exact hl7.1
    have l7 : b7 < w9.heap.size := hz7.lt
    clear hf hfr e7' hl7 hd7
    simp only [Reg.sel, h7, h27]
    have hEb := hE.below (Nat.le_refl _)
    have BE := (Below.refl W3.heap.size W3).drew.trans hEb
    have hA9 := hA3.below BE hA3.lt
    have hb9 := hb3.below BE hb3.lt
    have B9 := B3.trans (BE.mono B3.size)
    have hlt3 := hB3.lt
    clear h23 h25 h26 hck hT3 ok3 hR3 hE hEb
    refine at_store 41 ?_
    refine wpList_storeAll _ rfl 41 _ _ rfl b7 41 vdz (vdCells E V D A27 PL.length k27).toArray hz7 rfl rfl (by rw [List.size_toArray, vd_length _ _ _ _ _ _ HD.out]; rfl) (by rw [List.size_toArray, vd_length _ _ _ _ _ _ HD.out]; exact inf_vd) (vd_one _ _ _ _ _ _) ?_
    intro W4 hv4 hg4 hs4
    have hA4 := hA9.grown hg4 (by intro e; cases e; omega)
    have hb4 := hb9.grown hg4 (by intro e; cases e; omega)
    have B4 := grown_below B9 hg4 B9.size (by omega)
    have r4 := rd_chgX q27.2.1 (Chg.grown hg4 (by rintro j h; cases h; rfl)) (q27.2.2.ne hz7 (by decide))
    have cap := q27.1
    clear hz7 hA9 hb9 B9 BE g7 l7 q27 hg4 hs4 hA3 hB3 hb3 B3 h7 h27 hlt3
    have cE := vd_e hv4
    have cV := vd_ver hv4
    have cP := vd_pay hv4 HD.out
    have rD := vd_dig hv4
    have c2 : W4.cell? ⟨w.heap.size, 2, none⟩ = some (.int .u32 (g.off : Int)) := (hA4.cell 2).trans rfl
    have c3 : W4.cell? ⟨w.heap.size, 3, none⟩ = some (.int .u32 (g.len : Int)) := (hA4.cell 3).trans rfl
    have hz := zeroHd
    simp only [Act.put]
    by_cases h0 : E = 0
    · have hVE := HE.out.trans h0
      obtain ⟨x0, x1, x2, x3, x4, x5, x6, x7⟩ := good_of hVE
      have y1 : V = (gHd l g).ver := by rw [← HV.out, vVer, if_pos hVE]
      have y2 : D = (gHd l g).dig := by rw [← HDD.out, vDig, if_pos hVE]
      have y3 : PL = gPay l g := by rw [← HPL.out, vPay, if_pos hVE]
      have ss : sigSize (gOid g) ≤ 3000 := by
        have hh : hgt (gOid g) ≤ 20 := by unfold hgt; split <;> (try split) <;> (try split) <;> omega
        unfold sigSize
        split <;> omega
      have hgood := x1
      simp only [splGood, Bool.and_eq_true, decide_eq_true_eq] at x1
      obtain ⟨⟨⟨z1, z2⟩, z3⟩, z4⟩ := x1
      have hxl := getV_le l g.off g.len
      obtain ⟨X, hX⟩ : ∃ X, gReg l g = X := ⟨_, rfl⟩
      obtain ⟨S, hS⟩ : ∃ S, sigSize (gOid g) = S := ⟨_, rfl⟩
      obtain ⟨SA, hSA⟩ : ∃ Y, X.take 64 = Y := ⟨_, rfl⟩
      obtain ⟨SB, hSB⟩ : ∃ Y, (X.drop 64).take S = Y := ⟨_, rfl⟩
      obtain ⟨XL, hXL⟩ : ∃ Y, X.length = Y := ⟨_, rfl⟩
      obtain ⟨PN, hPN⟩ : ∃ Y, PL.length = Y := ⟨_, rfl⟩
      have hget := rget_any A n k l hn5 hnk g.off g.len ok.off ok.len W4 ((hR.below B4).more B4.size)
      rw [x0, show getV l g.off g.len = X from hX] at hget
      unfold BErr at hget
      rw [hXL] at hget
      rw [show getV l g.off g.len = X from hX, hXL] at hxl
      rw [hX, hS] at x2 x4 z2
      rw [hS] at ss
      rw [hXL] at z2
      rw [hX] at x3 z3
      rw [hSA] at x2 x3 z3
      rw [hSB] at x2
      have hp : XL = 64 + S + PN := by rw [← hPN, y3, x4, List.length_drop, hXL]; omega
      have HVE := Lib.hid x2
      have HSM : Hid (Sha.sum PL = D) := Lib.hid (by rw [y3, y2]; exact x5)
      have HX3 : Hid (gHd l g = hdVal SA) := Lib.hid x3
      have hHE : hdErr SA = 0 := by rw [hdErr, z3]; rfl
      have hcv : (c.val : Int) ≤ (V : Int) := by rw [y1]; omega
      have hcc1 : c.cells[1]? = some (.int .i64 0) := by show some (Value.int .i64 c.err) = _; rw [x6]
      have lSB : SB.length = S := by rw [← hSB, List.length_take, List.length_drop, hXL]; omega
      have lSA : SA.length = 64 := by rw [← hSA, List.length_take, hXL]; omega
      rw [hPN] at cP cap hv4 r4
      have HV1 := Lib.hid y1
      have HD1 := Lib.hid y2
      have HSA := Lib.hid hSA
      have HSB := Lib.hid hSB
      have HXL := Lib.hid hXL
      have hl5 : XL ≤ 1000000 := by omega
      subst h0
      clear x0 x2 x3 x4 x5 x6 x7 y1 y2 y3 z1 z3 z4 hgood hX hS hSA hSB hXL hPN hVE
      go_wp2_with fail
      refine Calls.mono hget ?_
      rintro e W5 ⟨A5, c5, rfl, g5, r5, hB5⟩
      obtain ⟨rb, ro, rfl, hrb, hrr⟩ := r5.range (by omega)
      have hA5 := hA4.below hB5 hA4.lt
      have hb5 := hb4.below hB5 hb4.lt
      have hv5 := hv4.below hB5 hv4.lt
      have B5 := B4.trans (hB5.mono B4.size)
      have rP5 := (r4.below hB5).more hB5.size
      have cP5 := vd_pay hv5 HD.out
      have r0 := r5
      have rA := rd_partM r5 g5 0 64 (by omega)
      have rB := rd_partM r5 g5 64 S (by omega)
      rw [List.drop_zero, HSA.out] at rA
      rw [HSB.out] at rB
      have hc50 : ¬ c5 = 0 := by omega
      simp only [if_neg hc50, Nat.add_zero] at rA
      have hsB := fun W => run_slice_nat (P := Tryz.prog) W 22 (by kernel_rfl) (by kernel_rfl) rb ro XL c5 64 S (by omega)
      rw [show ((64 + S : Nat) : Int) = 64 + (S : Int) by omega, show ((64 : Nat) : Int) = 64 from rfl] at hsB
      generalize (if c5 = 64 then (⟨rb, ro, none⟩ : Addr) else ⟨rb, ro + 64, none⟩) = AB at rB hsB
      have c64 : (64 : Int) ≤ (c5 : Int) := by omega
      have hsub : (XL : Int) - (PN : Int) = 64 + (S : Int) := by omega
      have hsubw : IntKind.i64.wrap ((XL : Int) - (PN : Int)) = 64 + (S : Int) := by rw [hsub]; exact IntWalk.i64_in _ (by omega)
      have hlss : ¬ ((XL : Int) < 64 + (PN : Int)) := by omega
      have HP := Lib.hid hp
      have hs10 : 64 + S ≤ c5 := by omega
      have hpn10 : PN ≤ 1000000 := by omega
      clear hp hsub
      clear hget r5 hrr hA4 hb4 hv4 B4 hB5 r4 cE cV cP rD c2 c3
      go_wp2_with fail
      have hho := rHeaderOf_any (some ⟨rb, ro, none⟩) 64 c5 (by omega) SA W5 rA
      rw [hHE] at hho
      refine Calls.mono hho ?_
      rintro e W6 ⟨rfl, hB6⟩
      obtain ⟨HV6, hHV6⟩ : ∃ H, hdVal SA = H := ⟨_, rfl⟩
      rw [hHV6]
      have hA6 := hA5.below hB6 hA5.lt
      have hb6 := hb5.below hB6 hb5.lt
      have hv6 := hv5.below hB6 hv5.lt
      have B6 := B5.trans (hB6.mono B5.size)
      have rP6 := (rP5.below hB6).more hB6.size
      have rA6 := (rA.below hB6).more hB6.size
      have rB6 := (rB.below hB6).more hB6.size
      have okH : HV6.ok := by rw [← hHV6]; exact hdVal_ok _
      have dH : HV6.dig = D := by rw [HD1.out, HX3.out, hHV6]
      have vH : HV6.ver = V := by rw [HV1.out, HX3.out, hHV6]
      have hh6 := Blk.new W6 51 (hdCells zhd).toArray
      have hHL := Lib.hid okH.dig
      clear hho hA5 hb5 hv5 B5 hB6 rP5 rA rB r0 cP5
      have BW : ∀ W7, (W6.alloc (.cells (hdCells zhd).toArray 51)).grownBy W7 (some W6.heap.size) → Below W6.heap.size W6 W7 := fun W7 hg => grown_below ((Below.refl W6.heap.size W6).alloc (Nat.le_refl _) _) hg (by simp) (Nat.le_refl _)
      go_wp2_with (first
        | ((with_reducible refine at_store 51 ?_); refine wpList_storeAll _ rfl 51 _ _ rfl W6.heap.size 51 _ (hdCells HV6).toArray hh6 rfl rfl (by rw [List.size_toArray, hdCells_length HV6 hHL.out]; rfl) (by rw [List.size_toArray, hdCells_length HV6 hHL.out]; exact inf_hd) (hdCells_one HV6) ?_; intro W8 hh8 hg8 hs8; have BW8 := BW W8 hg8; clear BW hg8 hs8; have cP8 := vd_pay (hv6.below BW8 hv6.lt) HD.out))
      have hA8 := hA6.below BW8 hA6.lt
      have hb8 := hb6.below BW8 hb6.lt
      have hv8 := hv6.below BW8 hv6.lt
      have B8 := B6.trans (BW8.mono B6.size)
      have rP8 := (rP6.below BW8).more BW8.size
      have rA8 := (rA6.below BW8).more BW8.size
      have rB8 := (rB6.below BW8).more BW8.size
      have hneq := nodeEq D D HD.out HD.out
      rw [beq_self_eq_true] at hneq
      have hdv0 : (hdCells HV6).toArray[0]? = some (.int .u32 (V : Int)) := by show some (Value.int .u32 (HV6.ver : Int)) = _; rw [vH]
      have hdr8 := fun (W : World) (H : Blk W W6.heap.size 51 (hdCells HV6).toArray) => hd_digR H
      rw [dH] at hdr8
      generalize W6.heap.size = b10 at *
      clear hA6 hb6 hv6 B6 rP6 rA6 rB6 hh6 cP8 hsB hsubw hlss hz BW8
      go_wp2_with fail
      refine Flow.wp_region_flow (W8.heap.size) [] [] (by kernel_rfl) (by kernel_rfl) (Nat.le_refl _) (fun _ h => by cases h) Flow.facts_nil ?_
      refine Flow.pass_old (X := .int .i64 0) 11 (Flow.met_none rfl) (.inl rfl) (by kernel_rfl) (by kernel_rfl) rfl ?_
      refine Flow.pass_val (.bool true) (Flow.met_none rfl) (fun a W hH => ?_) ?_
      · have e0 := Flow.see_new 80 0 hH.sees (by kernel_rfl) (by kernel_rfl) rfl rfl
        go_simp; first | done | rfl | (simp; done)
      refine Flow.pass_copy 81 1 (Flow.met_none rfl) (.inl rfl) (by kernel_rfl) (by kernel_rfl) rfl rfl (fun _ _ => Flow.kept_eqs _ _) ?_
      refine Flow.pass_val (.pointer (some ⟨w.heap.size, 7, none⟩)) (Flow.met_some 2 true 82 rfl rfl (by kernel_rfl) (by kernel_rfl) rfl rfl) (fun a W hH => ?_) ?_
      · have e0 := Flow.see_old 4 hH.sees (by kernel_rfl) (by kernel_rfl) rfl
        go_simp; first | done | rfl
      refine Flow.pass_val (.slice (some ⟨w.heap.size, 7, none⟩) 68 68) (Flow.met_some 2 true 82 rfl rfl (by kernel_rfl) (by kernel_rfl) rfl rfl) (fun a W hH => ?_) ?_
      · have e0 := Flow.see_new 83 3 hH.sees (by kernel_rfl) (by kernel_rfl) rfl rfl
        go_simp; first | done | rfl
      refine Flow.pass_old (X := .slice (some ⟨rb, ro, none⟩) XL c5) 8 (Flow.met_some 2 true 82 rfl rfl (by kernel_rfl) (by kernel_rfl) rfl rfl) (.inl rfl) (by kernel_rfl) (by kernel_rfl) rfl ?_
      refine Flow.pass_val (.slice (some ⟨rb, ro, none⟩) 64 c5) (Flow.met_some 2 true 82 rfl rfl (by kernel_rfl) (by kernel_rfl) rfl rfl) (fun a W hH => ?_) ?_
      · have e0 := Flow.see_new 85 5 hH.sees (by kernel_rfl) (by kernel_rfl) rfl rfl
        go_simp; first | done | rfl
      refine Flow.pass_old (X := .slice (some AB) S (c5 - 64)) 12 (Flow.met_some 2 true 82 rfl rfl (by kernel_rfl) (by kernel_rfl) rfl rfl) (.inl rfl) (by kernel_rfl) (by kernel_rfl) rfl ?_
      refine Flow.pass_step (Reg.eqs (.int .i64 0)) (fun _ _ => Flow.kept_eqs _ _) (Flow.met_some 2 true 82 rfl rfl (by kernel_rfl) (by kernel_rfl) rfl rfl) (fun a W hH => ?_) ?_
      · have e0 := Flow.see_new 84 4 hH.sees (by kernel_rfl) (by kernel_rfl) rfl rfl
        have e1 := Flow.see_new 86 6 hH.sees (by kernel_rfl) (by kernel_rfl) rfl rfl
        have e2 := Flow.see_new 87 7 hH.sees (by kernel_rfl) (by kernel_rfl) rfl rfl
        refine Reg.wp_call rfl Tryz.func15 rfl (by kernel_rfl) (by simp [Act.eval, e0, e1, e2]) (rVerify_all (some ⟨w.heap.size, 7, none⟩) 68 68 g.key (by omega) (by omega) (some ⟨rb, ro, none⟩) 64 c5 SA (by omega) (some AB) S (c5 - 64) SB (by omega) (by omega) W (gu_key (hA8.below ((Below.refl W8.heap.size W8).drew.trans hH.below) hA8.lt) HK.out) ((rA8.below ((Below.refl W8.heap.size W8).drew.trans hH.below)).more hH.below.size) ((rB8.below ((Below.refl W8.heap.size W8).drew.trans hH.below)).more hH.below.size)) ?_
        rintro e w' ⟨rfl, hB⟩
        rw [HVE.out]
        exact ⟨_, rfl, _, rfl, hB, rfl⟩
      refine Flow.pass_val (.bool true) (Flow.met_some 2 true 82 rfl rfl (by kernel_rfl) (by kernel_rfl) rfl rfl) (fun a W hH => ?_) ?_
      · have e0 := Flow.see_new 88 8 hH.sees (by kernel_rfl) (by kernel_rfl) rfl rfl
        go_simp; first | done | rfl | (simp; done)
      refine Flow.pass_val (.bool true) (Flow.met_none rfl) (fun a W hH => ?_) ?_
      · have e0 := Flow.see_new 82 2 hH.sees (by kernel_rfl) (by kernel_rfl) rfl rfl
        have e1 := Flow.see_new 89 9 hH.sees (by kernel_rfl) (by kernel_rfl) rfl rfl
        go_simp; first | done | rfl | (simp; done)
      refine Flow.pass_copy 90 10 (Flow.met_none rfl) (.inl rfl) (by kernel_rfl) (by kernel_rfl) rfl rfl (fun _ _ => Flow.kept_eqs _ _) ?_
      refine Flow.pass_val (.pointer (some ⟨b10, 3, none⟩)) (Flow.met_some 11 true 91 rfl rfl (by kernel_rfl) (by kernel_rfl) rfl rfl) (fun a W hH => ?_) ?_
      · have e0 := Flow.see_old 10 hH.sees (by kernel_rfl) (by kernel_rfl) rfl
        go_simp; first | done | rfl
      refine Flow.pass_val (.agg (bcells D).toArray) (Flow.met_some 11 true 91 rfl rfl (by kernel_rfl) (by kernel_rfl) rfl rfl) (fun a W hH => ?_) ?_
      · have e0 := Flow.see_new 92 12 hH.sees (by kernel_rfl) (by kernel_rfl) rfl rfl
        exact reg_loadRng 39 _ rfl e0 (hdr8 W (hh8.below ((Below.refl W8.heap.size W8).drew.trans hH.below) hh8.lt)) Tryz.underlying39 rfl (by rw [bcells_length, HD.out]; exact infNode)
      refine Flow.pass_val (.pointer (some ⟨b7, 2, none⟩)) (Flow.met_some 11 true 91 rfl rfl (by kernel_rfl) (by kernel_rfl) rfl rfl) (fun a W hH => ?_) ?_
      · have e0 := Flow.see_old 7 hH.sees (by kernel_rfl) (by kernel_rfl) rfl
        go_simp; first | done | rfl
      refine Flow.pass_val (.agg (bcells D).toArray) (Flow.met_some 11 true 91 rfl rfl (by kernel_rfl) (by kernel_rfl) rfl rfl) (fun a W hH => ?_) ?_
      · have e0 := Flow.see_new 94 14 hH.sees (by kernel_rfl) (by kernel_rfl) rfl rfl
        exact reg_loadRng 39 _ rfl e0 (vd_dig (hv8.below ((Below.refl W8.heap.size W8).drew.trans hH.below) hv8.lt)) Tryz.underlying39 rfl (by rw [bcells_length, HD.out]; exact infNode)
      refine Flow.pass_val (.bool true) (Flow.met_some 11 true 91 rfl rfl (by kernel_rfl) (by kernel_rfl) rfl rfl) (fun a W hH => ?_) ?_
      · have e0 := Flow.see_new 93 13 hH.sees (by kernel_rfl) (by kernel_rfl) rfl rfl
        have e1 := Flow.see_new 95 15 hH.sees (by kernel_rfl) (by kernel_rfl) rfl rfl
        exact reg_eqlT rfl (by simpa [Act.eval] using e0) (by simpa [Act.eval] using e1) nodeGuard (hneq W)
      refine Flow.pass_val (.bool true) (Flow.met_none rfl) (fun a W hH => ?_) ?_
      · have e0 := Flow.see_new 91 11 hH.sees (by kernel_rfl) (by kernel_rfl) rfl rfl
        have e1 := Flow.see_new 96 16 hH.sees (by kernel_rfl) (by kernel_rfl) rfl rfl
        go_simp; first | done | rfl | (simp; done)
      refine Flow.pass_copy 97 17 (Flow.met_none rfl) (.inl rfl) (by kernel_rfl) (by kernel_rfl) rfl rfl (fun _ _ => Flow.kept_eqs _ _) ?_
      refine Flow.pass_val (.pointer (some ⟨b7, 34, none⟩)) (Flow.met_some 18 true 98 rfl rfl (by kernel_rfl) (by kernel_rfl) rfl rfl) (fun a W hH => ?_) ?_
      · have e0 := Flow.see_old 7 hH.sees (by kernel_rfl) (by kernel_rfl) rfl
        go_simp; first | done | rfl
      refine Flow.pass_val (.slice A27 PN k27) (Flow.met_some 18 true 98 rfl rfl (by kernel_rfl) (by kernel_rfl) rfl rfl) (fun a W hH => ?_) ?_
      · have e0 := Flow.see_new 99 19 hH.sees (by kernel_rfl) (by kernel_rfl) rfl rfl
        have cc := vd_pay (hv8.below ((Below.refl W8.heap.size W8).drew.trans hH.below) hv8.lt) HD.out; go_simp; first | done | rfl
      refine Flow.pass_step (Reg.eqs (.agg (bcells D).toArray)) (fun _ _ => Flow.kept_eqs _ _) (Flow.met_some 18 true 98 rfl rfl (by kernel_rfl) (by kernel_rfl) rfl rfl) (fun a W hH => ?_) ?_
      · have e0 := Flow.see_new 100 20 hH.sees (by kernel_rfl) (by kernel_rfl) rfl rfl
        refine Reg.wp_call rfl Tryz.func16 rfl (by kernel_rfl) (by simp [Act.eval, e0]) (rsum_any A27 PN k27 PL W ((rP8.below ((Below.refl W8.heap.size W8).drew.trans hH.below)).more hH.below.size) (by omega)) ?_
        rintro e w' ⟨rfl, hB⟩
        rw [HSM.out]
        exact ⟨_, rfl, _, rfl, hB, rfl⟩
      refine Flow.pass_val (.pointer (some ⟨b7, 2, none⟩)) (Flow.met_some 18 true 98 rfl rfl (by kernel_rfl) (by kernel_rfl) rfl rfl) (fun a W hH => ?_) ?_
      · have e0 := Flow.see_old 7 hH.sees (by kernel_rfl) (by kernel_rfl) rfl
        go_simp; first | done | rfl
      refine Flow.pass_val (.agg (bcells D).toArray) (Flow.met_some 18 true 98 rfl rfl (by kernel_rfl) (by kernel_rfl) rfl rfl) (fun a W hH => ?_) ?_
      · have e0 := Flow.see_new 102 22 hH.sees (by kernel_rfl) (by kernel_rfl) rfl rfl
        exact reg_loadRng 39 _ rfl e0 (vd_dig (hv8.below ((Below.refl W8.heap.size W8).drew.trans hH.below) hv8.lt)) Tryz.underlying39 rfl (by rw [bcells_length, HD.out]; exact infNode)
      refine Flow.pass_val (.bool true) (Flow.met_some 18 true 98 rfl rfl (by kernel_rfl) (by kernel_rfl) rfl rfl) (fun a W hH => ?_) ?_
      · have e0 := Flow.see_new 101 21 hH.sees (by kernel_rfl) (by kernel_rfl) rfl rfl
        have e1 := Flow.see_new 103 23 hH.sees (by kernel_rfl) (by kernel_rfl) rfl rfl
        exact reg_eqlT rfl (by simpa [Act.eval] using e0) (by simpa [Act.eval] using e1) nodeGuard (hneq W)
      refine Flow.pass_val (.bool true) (Flow.met_none rfl) (fun a W hH => ?_) ?_
      · have e0 := Flow.see_new 98 18 hH.sees (by kernel_rfl) (by kernel_rfl) rfl rfl
        have e1 := Flow.see_new 104 24 hH.sees (by kernel_rfl) (by kernel_rfl) rfl rfl
        go_simp; first | done | rfl | (simp; done)
      refine Flow.pass_copy 105 25 (Flow.met_none rfl) (.inl rfl) (by kernel_rfl) (by kernel_rfl) rfl rfl (fun _ _ => Flow.kept_eqs _ _) ?_
      refine Flow.pass_val (.pointer (some ⟨b10, 0, none⟩)) (Flow.met_some 26 true 106 rfl rfl (by kernel_rfl) (by kernel_rfl) rfl rfl) (fun a W hH => ?_) ?_
      · have e0 := Flow.see_old 10 hH.sees (by kernel_rfl) (by kernel_rfl) rfl
        go_simp; first | done | rfl
      refine Flow.pass_val (.int .u32 (V : Int)) (Flow.met_some 26 true 106 rfl rfl (by kernel_rfl) (by kernel_rfl) rfl rfl) (fun a W hH => ?_) ?_
      · have e0 := Flow.see_new 107 27 hH.sees (by kernel_rfl) (by kernel_rfl) rfl rfl
        have cc := ((hh8.below ((Below.refl W8.heap.size W8).drew.trans hH.below) hh8.lt).cell 0).trans hdv0; go_simp; first | done | rfl
      refine Flow.pass_val (.pointer (some ⟨b7, 1, none⟩)) (Flow.met_some 26 true 106 rfl rfl (by kernel_rfl) (by kernel_rfl) rfl rfl) (fun a W hH => ?_) ?_
      · have e0 := Flow.see_old 7 hH.sees (by kernel_rfl) (by kernel_rfl) rfl
        go_simp; first | done | rfl
      refine Flow.pass_val (.int .u32 (V : Int)) (Flow.met_some 26 true 106 rfl rfl (by kernel_rfl) (by kernel_rfl) rfl rfl) (fun a W hH => ?_) ?_
      · have e0 := Flow.see_new 109 29 hH.sees (by kernel_rfl) (by kernel_rfl) rfl rfl
        have cc := vd_ver (hv8.below ((Below.refl W8.heap.size W8).drew.trans hH.below) hv8.lt); go_simp; first | done | rfl
      refine Flow.pass_val (.bool true) (Flow.met_some 26 true 106 rfl rfl (by kernel_rfl) (by kernel_rfl) rfl rfl) (fun a W hH => ?_) ?_
      · have e0 := Flow.see_new 108 28 hH.sees (by kernel_rfl) (by kernel_rfl) rfl rfl
        have e1 := Flow.see_new 110 30 hH.sees (by kernel_rfl) (by kernel_rfl) rfl rfl
        go_simp; first | done | rfl | (simp; done)
      refine Flow.pass_val (.bool true) (Flow.met_none rfl) (fun a W hH => ?_) ?_
      · have e0 := Flow.see_new 106 26 hH.sees (by kernel_rfl) (by kernel_rfl) rfl rfl
        have e1 := Flow.see_new 111 31 hH.sees (by kernel_rfl) (by kernel_rfl) rfl rfl
        go_simp; first | done | rfl | (simp; done)
      refine Flow.pass_copy 112 32 (Flow.met_none rfl) (.inl rfl) (by kernel_rfl) (by kernel_rfl) rfl rfl (fun _ _ => Flow.kept_eqs _ _) ?_
      refine Flow.pass_val (.pointer (some ⟨b7, 1, none⟩)) (Flow.met_some 33 true 113 rfl rfl (by kernel_rfl) (by kernel_rfl) rfl rfl) (fun a W hH => ?_) ?_
      · have e0 := Flow.see_old 7 hH.sees (by kernel_rfl) (by kernel_rfl) rfl
        go_simp; first | done | rfl
      refine Flow.pass_val (.int .u32 (V : Int)) (Flow.met_some 33 true 113 rfl rfl (by kernel_rfl) (by kernel_rfl) rfl rfl) (fun a W hH => ?_) ?_
      · have e0 := Flow.see_new 114 34 hH.sees (by kernel_rfl) (by kernel_rfl) rfl rfl
        have cc := vd_ver (hv8.below ((Below.refl W8.heap.size W8).drew.trans hH.below) hv8.lt); go_simp; first | done | rfl
      refine Flow.pass_val (.pointer (some ⟨w.heap.size + 1, 0, none⟩)) (Flow.met_some 33 true 113 rfl rfl (by kernel_rfl) (by kernel_rfl) rfl rfl) (fun a W hH => ?_) ?_
      · have e0 := Flow.see_old 5 hH.sees (by kernel_rfl) (by kernel_rfl) rfl
        go_simp; first | done | rfl
      refine Flow.pass_val (.int .u32 (c.val : Int)) (Flow.met_some 33 true 113 rfl rfl (by kernel_rfl) (by kernel_rfl) rfl rfl) (fun a W hH => ?_) ?_
      · have e0 := Flow.see_new 116 36 hH.sees (by kernel_rfl) (by kernel_rfl) rfl rfl
        have cc := ((hb8.below ((Below.refl W8.heap.size W8).drew.trans hH.below) hb8.lt).cell 0).trans (rfl : c.cells[0]? = _); go_simp; first | done | rfl
      refine Flow.pass_val (.bool true) (Flow.met_some 33 true 113 rfl rfl (by kernel_rfl) (by kernel_rfl) rfl rfl) (fun a W hH => ?_) ?_
      · have e0 := Flow.see_new 115 35 hH.sees (by kernel_rfl) (by kernel_rfl) rfl rfl
        have e1 := Flow.see_new 117 37 hH.sees (by kernel_rfl) (by kernel_rfl) rfl rfl
        go_simp; first | done | (rw [decide_eq_true hcv]) | (simp; omega)
      refine Flow.pass_val (.bool true) (Flow.met_none rfl) (fun a W hH => ?_) ?_
      · have e0 := Flow.see_new 113 33 hH.sees (by kernel_rfl) (by kernel_rfl) rfl rfl
        have e1 := Flow.see_new 118 38 hH.sees (by kernel_rfl) (by kernel_rfl) rfl rfl
        go_simp; first | done | rfl | (simp; done)
      refine Flow.pass_copy 119 39 (Flow.met_none rfl) (.inl rfl) (by kernel_rfl) (by kernel_rfl) rfl rfl (fun _ _ => Flow.kept_eqs _ _) ?_
      refine Flow.pass_val (.pointer (some ⟨w.heap.size + 1, 1, none⟩)) (Flow.met_some 40 true 120 rfl rfl (by kernel_rfl) (by kernel_rfl) rfl rfl) (fun a W hH => ?_) ?_
      · have e0 := Flow.see_old 5 hH.sees (by kernel_rfl) (by kernel_rfl) rfl
        go_simp; first | done | rfl
      refine Flow.pass_val (.int .i64 0) (Flow.met_some 40 true 120 rfl rfl (by kernel_rfl) (by kernel_rfl) rfl rfl) (fun a W hH => ?_) ?_
      · have e0 := Flow.see_new 121 41 hH.sees (by kernel_rfl) (by kernel_rfl) rfl rfl
        have cc := ((hb8.below ((Below.refl W8.heap.size W8).drew.trans hH.below) hb8.lt).cell 1).trans hcc1; go_simp; first | done | rfl
      refine Flow.pass_val (.bool true) (Flow.met_some 40 true 120 rfl rfl (by kernel_rfl) (by kernel_rfl) rfl rfl) (fun a W hH => ?_) ?_
      · have e0 := Flow.see_new 122 42 hH.sees (by kernel_rfl) (by kernel_rfl) rfl rfl
        go_simp; first | done | rfl | (simp; done)
      refine Flow.pass_val (.bool true) (Flow.met_none rfl) (fun a W hH => ?_) ?_
      · have e0 := Flow.see_new 120 40 hH.sees (by kernel_rfl) (by kernel_rfl) rfl rfl
        have e1 := Flow.see_new 123 43 hH.sees (by kernel_rfl) (by kernel_rfl) rfl rfl
        go_simp; first | done | rfl | (simp; done)
      refine Flow.pass_copy 124 44 (Flow.met_none rfl) (.inr rfl) (by kernel_rfl) (by kernel_rfl) rfl rfl (fun _ _ => Flow.kept_eqs _ _) ?_
      refine Flow.pass_end [none, none, none, none, none, none, some 6, none, none, none, none, none, none, none, none, none, none, none, none, none, none, none, none, none, none, none, none, none, none, none, none, none, none, none, none, none, none, none, none, none, none, none, none, none, none, none, none, none, none, none, none, none, none, none, none, none, none, none, none, none, none, none, none, none, none, none, none, none, none, none, none, none, none, none, none, none, none, none, none, none, some 80, some 81, some 82, some 83, some 84, some 85, some 86, some 87, some 88, some 89, some 90, some 91, some 92, some 93, some 94, some 95, some 96, some 97, some 98, some 99, some 100, some 101, some 102, some 103, some 104, some 105, some 106, some 107, some 108, some 109, some 110, some 111, some 112, some 113, some 114, some 115, some 116, some 117, some 118, some 119, some 120, some 121, some 122, some 123, some 124] (by kernel_rfl) ?_
      intro f gg w9 hB hfa hT hfg
      have h6 : f 6 = _ := (hfg 6 45 (by kernel_rfl)).trans (hT 45 _ (by kernel_rfl) rfl)
      have B9 := B8.trans ((Below.refl W8.heap.size W8).drew.trans hB |>.mono B8.size)
      simp only [Reg.sel, h6]
      clear hT hfg hfa hB
      go_wp2
      go_ret
      exact ⟨rfl, B9⟩
    · have hVE : ¬ vErr l g c = 0 := by rw [HE.out]; exact h0
      have y1 : V = 0 := by rw [← HV.out, vVer, if_neg hVE]
      have y2 : D = z32 := by rw [← HDD.out, vDig, if_neg hVE]
      have y3 : PL = [] := by rw [← HPL.out, vPay, if_neg hVE]
      have hne : (E != 0) = true := by simpa using h0
      have hneq := nodeEq D D HD.out HD.out
      rw [beq_self_eq_true] at hneq
      have hbz := node_zero
      rw [← y2] at hbz
      rw [y3] at cP
      have cP2 : W4.cell? ⟨b7, 34, none⟩ = some (.slice A27 0 k27) := cP
      rw [y1] at cV
      clear h0 hVE y1 y2 y3 cP
      go_wp2_with (first
        | ((with_reducible refine at_load 39 ?_); refine wpList_load_midW rfl 39 _ rfl b7 2 rfl (bcells D) _ rD Tryz.underlying39 rfl (by rw [bcells_length, HD.out]; exact infNode) ?_)
        | ((with_reducible refine at_build 39 ?_); refine wpList_buildV _ rfl #[] rfl (by simp) (hbz _) ?_)
        | ((with_reducible refine at_binT 39 ?_); refine wpList_eql _ rfl rfl (xs := (bcells D).toArray) (ys := (bcells D).toArray) rfl rfl nodeGuard (hneq _) ?_))
      go_ret
      exact ⟨rfl, B4⟩
end Go.Proofs.YtipdmhppadapkaaGreatDoor
