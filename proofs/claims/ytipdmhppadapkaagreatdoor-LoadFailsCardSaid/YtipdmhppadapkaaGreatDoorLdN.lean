/-
  Walk: the law LoadFails.
-/
import Derived.Test.YtipdmhppadapkaaGreatDoorLdM
namespace Go.Proofs.YtipdmhppadapkaaGreatDoor
open Go.RowKit Sha

def kb (l : List UInt8) (i : Nat) : Nat := (l[i]?.getD 0).toNat
theorem kb_lt (l : List UInt8) (i : Nat) : kb l i < 256 := UInt8.toNat_lt _
theorem oid_kb (g : Gu) (hk : g.key.length = 68) : gOid g = ((kb g.key 0 * 256 + kb g.key 1) * 256 + kb g.key 2) * 256 + kb g.key 3 := by
  have e : ∀ i, byteAt g.key 0 4 false i = kb g.key i := fun i => by rw [byteAt_high, Nat.zero_add]; rfl
  unfold gOid rdNum
  rw [if_pos (by omega)]
  show numOf (byteAt g.key 0 4 false) 4 = _
  simp only [numOf, e]
  omega
theorem or_add (x y k : Nat) (h : y < 2 ^ k) : x * 2 ^ k ||| y = x * 2 ^ k + y := by
  rw [Nat.mul_comm, ← Nat.two_pow_add_eq_or_of_lt h]
theorem oid_or (a b c d : Nat) (_ha : a < 256) (hb : b < 256) (hc : c < 256) (hd : d < 256) : a * 16777216 ||| b * 65536 ||| c * 256 ||| d = ((a * 256 + b) * 256 + c) * 256 + d := by
  have e1 : a * 16777216 ||| b * 65536 = a * 16777216 + b * 65536 := or_add a _ 24 (by omega)
  have e2 : (a * 256 + b) * 65536 ||| c * 256 = (a * 256 + b) * 65536 + c * 256 := or_add (a * 256 + b) _ 16 (by omega)
  have e3 : ((a * 256 + b) * 256 + c) * 256 ||| d = ((a * 256 + b) * 256 + c) * 256 + d := or_add ((a * 256 + b) * 256 + c) _ 8 (by omega)
  rw [e1, show a * 16777216 + b * 65536 = (a * 256 + b) * 65536 by omega, e2, show (a * 256 + b) * 65536 + c * 256 = ((a * 256 + b) * 256 + c) * 256 by omega, e3]
theorem oid_bits (a b c d : Nat) (ha : a < 256) (hb : b < 256) (hc : c < 256) (hd : d < 256) :
    bits .or .u32 (bits .or .u32 (bits .or .u32 ((a : Int) * 16777216) ((b : Int) * 65536)) ((c : Int) * 256)) (d : Int) = (((((a * 256 + b) * 256 + c) * 256 + d : Nat)) : Int) := by
  have e1 : a * 16777216 ||| b * 65536 = a * 16777216 + b * 65536 := or_add a _ 24 (by omega)
  have e2 : (a * 256 + b) * 65536 ||| c * 256 = (a * 256 + b) * 65536 + c * 256 := or_add (a * 256 + b) _ 16 (by omega)
  rw [← oid_or a b c d ha hb hc hd, show (a : Int) * 16777216 = ((a * 16777216 : Nat) : Int) by omega, show (b : Int) * 65536 = ((b * 65536 : Nat) : Int) by omega, show (c : Int) * 256 = ((c * 256 : Nat) : Int) by omega,
    u32_or_nat _ _ (by omega) (by omega), u32_or_nat _ _ (by omega) (by omega), u32_or_nat _ _ ?_ (by omega)]
  rw [e1, show a * 16777216 + b * 65536 = (a * 256 + b) * 65536 by omega, e2]; omega
theorem vErr_ne {l : List UInt8} {g : Gu} {c : Ctr} (k : Nat) (hk : k < 7) (h : errAt l g c k ≠ 0) : (vErr l g c == 0) = false := by
  cases hv : (vErr l g c == 0) with
  | false => rfl
  | true => exact absurd (firstE_ok (show firstE (errAt l g c) 7 = 0 from (by simpa using hv : vErr l g c = 0)) k hk) h
theorem gu_kb {W : World} {b : Nat} {g : Gu} (H : Blk W b 31 g.cells.toArray) (hk : g.key.length = 68) (i : Nat) (hi : i < 68) : W.cell? ⟨b, 7 + i, none⟩ = some (.int .u8 ((kb g.key i : Nat) : Int)) := by
  rw [H.cell, List.getElem?_toArray, Gu.cells, List.append_assoc, List.getElem?_append_right (by simp), List.getElem?_append_left (by simp [bcells_length, hk]; omega)]
  have hlt : i < g.key.length := by omega
  simp [bcells, kb, hlt]

set_option maxRecDepth 100000 in
set_option maxHeartbeats 4000000 in
theorem loadFails_walk (w : World) (hT : Tabs w) (A : Option Addr) (n k : Nat) (l : List UInt8) (hR : Rd w w.heap.size 1 A n (bcells l)) (hnk : n ≤ k) (_hk : k ≤ 9223372036854775807) (g : Gu) (ok : g.ok w w.heap.size) (c : Ctr) (_okc : c.ok) :
    Calls Tryz.prog 4 #[.slice A n k, .agg g.cells.toArray, .agg c.cells] w fun e w' => e = .returned (.bool true) ∧ Below w.heap.size w w' := by
  have hl : n = l.length := by have := hR.len; rw [bcells_length] at this; omega
  have HL := Lib.hid hl
  have HK := Lib.hid ok.key
  have hA := blk2a w (.cells c.cells 34) 31 g.cells.toArray
  have hB := blk2b w (.cells g.cells.toArray 31) 34 c.cells
  have B1 : Below w.heap.size w ((w.alloc (.cells g.cells.toArray 31)).alloc (.cells c.cells 34)) := ((Below.refl _ _).alloc (Nat.le_refl _) _).alloc (by simp) _
  clear hl
  go_enter Tryz.func4, Tryz.ntmps4
  go_wp2_with fail
  have haw := awake26 ((w.alloc (.cells g.cells.toArray 31)).alloc (.cells c.cells 34)) (hT.below B1)
  generalize (w.alloc (.cells g.cells.toArray 31)).alloc (.cells c.cells 34) = W1 at *
  refine Calls.mono haw ?_
  rintro e W2 ⟨rfl, hB2⟩
  have hA2 := hA.below hB2 hA.lt
  have hb2 := hB.below hB2 hB.lt
  have B2 := B1.trans (hB2.mono B1.size)
  have hfew := few_any26 g HK.out W2
  clear haw hA hB B1 hB2
  by_cases hbig : 20000 < n
  · have hdb : decide (20000 < (n : Int)) = true := decide_eq_true (by omega)
    go_wp2_with fail
    go_ret
    exact ⟨rfl, B2⟩
  have hdb : decide (20000 < (n : Int)) = false := decide_eq_false (by omega)
  go_wp2_with ((with_reducible refine at_load 31 ?_); refine wpList_loadAllW _ rfl 31 _ rfl w.heap.size 31 g.cells.toArray hA2 _ rfl Tryz.underlying31 rfl (by rw [List.size_toArray, g.cells_length HK.out]; exact inf_gu) ?_)
  have hn5 : n ≤ 1000000 := by omega
  have hl5 : l.length ≤ 1000000 := by rw [← HL.out]; exact hn5
  refine Calls.mono hfew ?_
  rintro e W3 ⟨rfl, hB3⟩
  have hA3 := hA2.below hB3 hA2.lt
  have hb3 := hb2.below hB3 hb2.lt
  have B3 := B2.trans (hB3.mono B2.size)
  clear hfew hA2 hb2 B2 hB3
  cases fewB g with
  | false =>
    go_wp2_with fail
    go_ret
    exact ⟨rfl, B3⟩
  | true =>
    have hB3 := hb3
    have hR3 := (hR.below B3).more B3.size
    have hT3 := hT.below B3
    have ok3 := ok.below B3 B3.size
    have hck := fun W (ok : g.ok W W.heap.size) (hT : Tabs W) f hF => lcheck_new f l hl5 g c W ok hF hT
    have hD := vDig_length l g c
    unfold CkRetU at hck
    obtain ⟨E, hE⟩ : ∃ E, vErr l g c = E := ⟨_, rfl⟩
    obtain ⟨V, hV⟩ : ∃ V, vVer l g c = V := ⟨_, rfl⟩
    obtain ⟨D, hDD⟩ : ∃ D, vDig l g c = D := ⟨_, rfl⟩
    obtain ⟨PL, hPL⟩ : ∃ P, vPay l g c = P := ⟨_, rfl⟩
    rw [hE, hV, hDD, hPL] at hck
    rw [hDD] at hD
    have HE := Lib.hid hE
    have HV := Lib.hid hV
    have HDD := Lib.hid hDD
    have HPL := Lib.hid hPL
    have HD := Lib.hid hD
    clear hE hV hDD hPL
    go_wp2_with fail
    refine Reg.wp_region_tail 6 [5] (by kernel_rfl) (by kernel_rfl) (by kernel_rfl) (by kernel_rfl) (by kernel_rfl) ?_
    refine Reg.pass_old (X := .slice A n k) 0 (Reg.met_none rfl) (.inl rfl) (by kernel_rfl) (by kernel_rfl) rfl ?_
    refine Reg.pass_step (fun v W => ∃ f, v = .pointer (some ⟨f, 0, none⟩) ∧ FL W f l) (fun _ _ _ ⟨f, h1, h2⟩ h => ⟨f, h1, h2.below h⟩) (Reg.met_none rfl) (fun a W hE hS => ?_) ?_
    · have e0 := Reg.see_new 27 0 hS (by kernel_rfl) (by kernel_rfl) rfl rfl
      refine Reg.wp_call rfl Tryz.func11 rfl (by kernel_rfl) (by simp [Act.eval, e0]) (burn_any A n k l hn5 W ((hR3.below ((Below.refl W3.heap.size W3).drew.trans (hE.below (Nat.le_refl _)))).more (((Below.refl W3.heap.size W3).drew.trans (hE.below (Nat.le_refl _)))).size)) ?_
      rintro e w' ⟨f, rfl, h1, h2, hB⟩
      exact ⟨_, rfl, _, rfl, hB, f, rfl, h2⟩
    refine Reg.pass_val (.agg g.cells.toArray) (Reg.met_none rfl) (fun a W hE hS => ?_) ?_
    · have e0 := Reg.see_old 4 hS (by kernel_rfl) (by kernel_rfl) rfl
      exact reg_load 31 _ rfl e0 (hA3.below ((Below.refl W3.heap.size W3).drew.trans (hE.below (Nat.le_refl _))) hA3.lt) Tryz.underlying31 rfl (by rw [List.size_toArray, g.cells_length HK.out]; exact inf_gu)
    refine Reg.pass_val (.agg c.cells) (Reg.met_none rfl) (fun a W hE hS => ?_) ?_
    · have e0 := Reg.see_old 5 hS (by kernel_rfl) (by kernel_rfl) rfl
      exact reg_load 34 _ rfl e0 (hB3.below ((Below.refl W3.heap.size W3).drew.trans (hE.below (Nat.le_refl _))) hB3.lt) Tryz.underlying34 rfl inf_ct
    refine Reg.pass_step (fun v W => ∃ A k, v = .agg (vdCells E V D A PL.length k).toArray ∧ ((PL.length ≤ k ∧ k ≤ 9223372036854775807) ∧ Rd W W.heap.size 1 A PL.length (bcells PL) ∧ IsU8 W A)) (fun _ _ _ ⟨A, k, h1, h2, h3, h4⟩ h => ⟨A, k, h1, h2, h3.ext h, h4.below h⟩) (Reg.met_none rfl) (fun a W hE hS => ?_) ?_
    · obtain ⟨f0, e0, q0⟩ := Reg.see_kind 28 1 hS (by kernel_rfl) (by kernel_rfl) rfl rfl
      have e1 := Reg.see_new 29 2 hS (by kernel_rfl) (by kernel_rfl) rfl rfl
      have e2 := Reg.see_new 30 3 hS (by kernel_rfl) (by kernel_rfl) rfl rfl
      refine Reg.wp_call rfl Tryz.func10 rfl (by kernel_rfl) (by simp [Act.eval, e0, e1, e2]) (hck W (ok3.below ((Below.refl W3.heap.size W3).drew.trans (hE.below (Nat.le_refl _))) (((Below.refl W3.heap.size W3).drew.trans (hE.below (Nat.le_refl _)))).size) (hT3.below ((Below.refl W3.heap.size W3).drew.trans (hE.below (Nat.le_refl _)))) f0 q0) ?_
      rintro e w' ⟨A, k, rfl, h1, h2, hB, h3⟩
      exact ⟨_, rfl, _, rfl, hB, A, k, rfl, h1, h2, h3⟩
    refine Reg.pass_new 41 vdz rfl rfl zeroVd ?_
    refine ⟨fun i hi o ho => ?_, ?_⟩
    · simp only [List.mem_cons, List.not_mem_nil, or_false] at hi
      rcases hi with rfl
      · cases ho; exact ⟨_, _, rfl, rfl, zeroVd, rfl⟩
    refine Reg.tail_end [none, none, none, none, none, none, none, some 7, none, none, none, none, none, none, none, none, none, none, none, none, none, none, none, none, none, none, none, some 27, some 28, some 29, some 30, some 31, none, none, none, none, none, none, none, none, none, none, none, none, none, none, none, none, none, none, none, none, none, none, none, none, none, none, none, none, none, none, none, none, none, none, none, none, none, none, none, none, none, none, none, none, none, none, none, none, none, none, none, none, none, none, none, none, none, none, none, none, none, none, none, none, none, none, none, none, none, none, none, none, none, none, none, none, none, none, none, none, none, none, none, none, none, none, none, none, none, none, none, none, none, none, none, none, none, none, none, none, none, none, none] (by kernel_rfl) ?_
    intro ff w9 hE hf hfr
    obtain ⟨b7, h7, hz7⟩ : Reg.newK 41 vdz (ff 7) w9 := hf 7 5 _ (by kernel_rfl) (by decide) rfl
    obtain ⟨b7', e7', hl7, hd7⟩ := hfr 5 (by simp) 7 (by kernel_rfl)
    have h27 : ff 27 = _ := hf 27 0 _ (by kernel_rfl) (by decide) rfl
    have h29 : ff 29 = _ := hf 29 2 _ (by kernel_rfl) (by decide) rfl
    have h30 : ff 30 = _ := hf 30 3 _ (by kernel_rfl) (by decide) rfl
    obtain ⟨A31, k31, h31, q31⟩ : (fun v W => ∃ A k, v = .agg (vdCells E V D A PL.length k).toArray ∧ ((PL.length ≤ k ∧ k ≤ 9223372036854775807) ∧ Rd W W.heap.size 1 A PL.length (bcells PL) ∧ IsU8 W A)) (ff 31) w9 := hf 31 4 _ (by kernel_rfl) (by decide) rfl
    have g7 : (W3.heap.size) ≤ b7 := by
      rw [h7] at e7'
      simp only [Reg.ptr, Value.pointer.injEq, Option.some.injEq, Addr.mk.injEq, and_true] at e7'
      rw [e7']; exact hl7.1
    have l7 : b7 < w9.heap.size := hz7.lt
    clear hf hfr e7' hl7 hd7
    simp only [Reg.sel, h7, h31]
    have hEb := hE.below (Nat.le_refl _)
    have BE := (Below.refl W3.heap.size W3).drew.trans hEb
    have hA9 := hA3.below BE hA3.lt
    have hb9 := hb3.below BE hb3.lt
    have B9 := B3.trans (BE.mono B3.size)
    have hlt3 := hB3.lt
    clear h27 h29 h30 hck hT3 ok3 hR3 hE hEb
    refine at_store 41 ?_
    refine wpList_storeAll _ rfl 41 _ _ rfl b7 41 vdz (vdCells E V D A31 PL.length k31).toArray hz7 rfl rfl (by rw [List.size_toArray, vd_length _ _ _ _ _ _ HD.out]; rfl) (by rw [List.size_toArray, vd_length _ _ _ _ _ _ HD.out]; exact inf_vd) (vd_one _ _ _ _ _ _) ?_
    intro W4 hv4 hg4 hs4
    have hA4 := hA9.grown hg4 (by intro e; cases e; omega)
    have hb4 := hb9.grown hg4 (by intro e; cases e; omega)
    have B4 := grown_below B9 hg4 B9.size (by omega)
    have r4 := rd_chgX q31.2.1 (Chg.grown hg4 (by rintro j h; cases h; rfl)) (q31.2.2.ne hz7 (by decide))
    have cap := q31.1
    clear hz7 hA9 hb9 B9 BE g7 l7 q31 hg4 hs4 hA3 hB3 hb3 B3 h7 h31 hlt3
    have cE := vd_e hv4
    have cV := vd_ver hv4
    have cP := vd_pay hv4 HD.out
    have rD := vd_dig hv4
    have c2 : W4.cell? ⟨w.heap.size, 2, none⟩ = some (.int .u32 (g.off : Int)) := (hA4.cell 2).trans rfl
    have c3 : W4.cell? ⟨w.heap.size, 3, none⟩ = some (.int .u32 (g.len : Int)) := (hA4.cell 3).trans rfl
    have hz := zeroHd
    simp only [Act.put]
    obtain ⟨RG, hRG⟩ : ∃ RG, getV l g.off g.len = RG := ⟨_, rfl⟩
    obtain ⟨E0, hE0⟩ : ∃ E, getE l g.off g.len = E := ⟨_, rfl⟩
    obtain ⟨RL, hRL⟩ : ∃ RL, RG.length = RL := ⟨_, rfl⟩
    have hget := rget_any A n k l hn5 hnk g.off g.len ok.off ok.len W4 ((hR.below B4).more B4.size)
    have hRL6 : RL ≤ 1000000 := by
      have h1 := getV_le l g.off g.len
      rw [hRG, hRL] at h1; omega
    rw [hRG, hE0] at hget
    unfold BErr at hget
    rw [hRL] at hget
    have HRG := Lib.hid hRG
    have HE0 := Lib.hid hE0
    have HRL := Lib.hid hRL
    clear hRG hE0 hRL
    go_wp2_with fail
    refine Calls.mono hget ?_
    rintro e W5 ⟨A5, c5, rfl, g5, r5, hB5⟩
    have hA5 := hA4.below hB5 hA4.lt
    have hb5 := hb4.below hB5 hb4.lt
    have hv5 := hv4.below hB5 hv4.lt
    have B5 := B4.trans (hB5.mono B4.size)
    have k0 := gu_kb hA5 HK.out 0 (by omega)
    have k1 := gu_kb hA5 HK.out 1 (by omega)
    have k2 := gu_kb hA5 HK.out 2 (by omega)
    have k3 := gu_kb hA5 HK.out 3 (by omega)
    have l0 := kb_lt g.key 0
    have l1 := kb_lt g.key 1
    have l2 := kb_lt g.key 2
    have l3 := kb_lt g.key 3
    have hoid := oid_bits _ _ _ _ l0 l1 l2 l3
    rw [← oid_kb g HK.out] at hoid
    generalize kb g.key 0 = b0 at *
    generalize kb g.key 1 = b1 at *
    generalize kb g.key 2 = b2 at *
    generalize kb g.key 3 = b3 at *
    clear hget hA4 hb4 hv4 B4 hB5 r4 cE cV cP rD c2 c3
    go_wp2_with fail
    obtain ⟨OI, hOI⟩ : ∃ o, gOid g = o := ⟨_, rfl⟩
    rw [hOI]
    have hsp := rSplit_cap A5 RL c5 g5 hRL6 RG OI W5 W5.heap.size (Nat.le_refl _) r5
    obtain ⟨p1, p2, p3⟩ := spl_le RG OI
    have hHD32 : (splHd RG OI).dig.length = 32 := by
      unfold splHd
      split
      · exact (hdVal_ok _).dig
      · rfl
    obtain ⟨HD, hHD⟩ : ∃ H, splHd RG OI = H := ⟨_, rfl⟩
    obtain ⟨SA, hSA⟩ : ∃ H, splA RG OI = H := ⟨_, rfl⟩
    obtain ⟨SB, hSB⟩ : ∃ H, splB RG OI = H := ⟨_, rfl⟩
    obtain ⟨SC, hSC⟩ : ∃ H, splC RG OI = H := ⟨_, rfl⟩
    obtain ⟨SE, hSE⟩ : ∃ H, splErr RG OI = H := ⟨_, rfl⟩
    obtain ⟨VE, hVE⟩ : ∃ V, verErr g.key SA SB = V := ⟨_, rfl⟩
    unfold SplRetC at hsp
    rw [hHD, hSA, hSB, hSC, hSE] at hsp
    rw [hSA] at p1
    rw [hSB] at p2
    rw [hSC, HRL.out] at p3
    rw [hHD] at hHD32
    have HH := Lib.hid hHD32
    have q0 : Hid (errAt l g c 0 = if E0 ≠ 0 then E0 else SE) := Lib.hid (by show e0 l g = _; rw [e0, HE0.out, gReg, HRG.out, hOI, hSE])
    have q1 : Hid (errAt l g c 1 = VE) := Lib.hid (by show e1 l g = _; rw [e1, gReg, HRG.out, hOI, hSA, hSB, hVE])
    have qH : Hid (gHd l g = HD) := Lib.hid (by rw [gHd, gReg, HRG.out, hOI, hHD])
    have qP : Hid (gPay l g = SC) := Lib.hid (by rw [gPay, gReg, HRG.out, hOI, hSC])
    have HVE := Lib.hid hVE
    have hp3 : SC.length ≤ 1000000 := by omega
    have hSz : HD.size < 4294967296 ∧ HD.ver < 4294967296 := by have h3 := (gHd_ok l g).2; rw [qH.out] at h3; exact h3
    clear hHD32 hHD hSA hSB hSC hSE hVE hOI p3 k0 k1 k2 k3 l0 l1 l2 l3 hoid
    refine Calls.mono hsp ?_
    rintro e W6 ⟨A1, k1, A2, k2, A3, k3, rfl, r1, r2, r3, hB6, m1, m2, m3⟩
    have hA6 := hA5.below hB6 hA5.lt
    have hb6 := hb5.below hB6 hb5.lt
    have hv6 := hv5.below hB6 hv5.lt
    have B6 := B5.trans (hB6.mono B5.size)
    have hh6 := Blk.new W6 51 (hdCells zhd).toArray
    have BW : ∀ W7, (W6.alloc (.cells (hdCells zhd).toArray 51)).grownBy W7 (some W6.heap.size) → Below W6.heap.size W6 W7 := fun W7 hg => grown_below ((Below.refl W6.heap.size W6).alloc (Nat.le_refl _) _) hg (by simp) (Nat.le_refl _)
    have hr1 := (r1.more hB6.size)
    have hr2 := (r2.more hB6.size)
    have hr3 := (r3.more hB6.size)
    clear hsp hA5 hb5 hv5 B5 hB6 r5 r1 r2 r3
    go_wp2_with (first
      | ((with_reducible refine at_store 51 ?_); refine wpList_storeAll _ rfl 51 _ _ rfl W6.heap.size 51 _ (hdCells HD).toArray hh6 rfl rfl (by rw [List.size_toArray, hdCells_length HD HH.out]; rfl) (by rw [List.size_toArray, hdCells_length HD HH.out]; exact inf_hd) (hdCells_one HD) ?_; intro W8 hh8 hg8 hs8; have BW8 := BW W8 hg8; clear BW hg8 hs8))
    have hA8 := hA6.below BW8 hA6.lt
    have hb8 := hb6.below BW8 hb6.lt
    have hv8 := hv6.below BW8 hv6.lt
    have B8 := B6.trans (BW8.mono B6.size)
    have r18 := (hr1.below BW8).more BW8.size
    have r28 := (hr2.below BW8).more BW8.size
    have r38 := (hr3.below BW8).more BW8.size
    clear hA6 hb6 hv6 B6 hh6 hr1 hr2 hr3 BW8 hz
    generalize W6.heap.size = b11 at *
    by_cases h0 : E0 = 0
    · subst h0
      by_cases h1 : SE = 0
      · subst h1
        by_cases h2 : VE = 0
        · subst h2
          refine Flow.wp_region_flow (W8.heap.size) [] [] (by kernel_rfl) (by kernel_rfl) (Nat.le_refl _) (fun _ h => by cases h) Flow.facts_nil ?_
          refine Flow.pass_old (X := .int .i64 0) 9 (Flow.met_none rfl) (.inl rfl) (by kernel_rfl) (by kernel_rfl) rfl ?_
          refine Flow.pass_val (.bool true) (Flow.met_none rfl) (fun a W hH => ?_) ?_
          · have e0 := Flow.see_new 72 0 hH.sees (by kernel_rfl) (by kernel_rfl) rfl rfl
            go_simp; first | done | rfl | (simp; done)
          refine Flow.pass_copy 73 1 (Flow.met_none rfl) (.inl rfl) (by kernel_rfl) (by kernel_rfl) rfl rfl (fun _ _ => Flow.kept_eqs _ _) ?_
          refine Flow.pass_old (X := .int .i64 0) 15 (Flow.met_some 2 true 74 rfl rfl (by kernel_rfl) (by kernel_rfl) rfl rfl) (.inl rfl) (by kernel_rfl) (by kernel_rfl) rfl ?_
          refine Flow.pass_val (.bool true) (Flow.met_some 2 true 74 rfl rfl (by kernel_rfl) (by kernel_rfl) rfl rfl) (fun a W hH => ?_) ?_
          · have e0 := Flow.see_new 75 3 hH.sees (by kernel_rfl) (by kernel_rfl) rfl rfl
            go_simp; first | done | rfl | (simp; done)
          refine Flow.pass_val (.bool true) (Flow.met_none rfl) (fun a W hH => ?_) ?_
          · have e0 := Flow.see_new 74 2 hH.sees (by kernel_rfl) (by kernel_rfl) rfl rfl
            have e1 := Flow.see_new 76 4 hH.sees (by kernel_rfl) (by kernel_rfl) rfl rfl
            go_simp; first | done | rfl | (simp; done)
          refine Flow.pass_copy 77 5 (Flow.met_none rfl) (.inl rfl) (by kernel_rfl) (by kernel_rfl) rfl rfl (fun _ _ => Flow.kept_eqs _ _) ?_
          refine Flow.pass_val (.pointer (some ⟨w.heap.size, 7, none⟩)) (Flow.met_some 6 true 78 rfl rfl (by kernel_rfl) (by kernel_rfl) rfl rfl) (fun a W hH => ?_) ?_
          · have e0 := Flow.see_old 4 hH.sees (by kernel_rfl) (by kernel_rfl) rfl
            go_simp; first | done | rfl | (simp; done)
          refine Flow.pass_val (.slice (some ⟨w.heap.size, 7, none⟩) 68 68) (Flow.met_some 6 true 78 rfl rfl (by kernel_rfl) (by kernel_rfl) rfl rfl) (fun a W hH => ?_) ?_
          · have e0 := Flow.see_new 79 7 hH.sees (by kernel_rfl) (by kernel_rfl) rfl rfl
            go_simp; first | done | rfl | (simp; done)
          refine Flow.pass_old (X := .slice A1 SA.length k1) 12 (Flow.met_some 6 true 78 rfl rfl (by kernel_rfl) (by kernel_rfl) rfl rfl) (.inl rfl) (by kernel_rfl) (by kernel_rfl) rfl ?_
          refine Flow.pass_old (X := .slice A2 SB.length k2) 13 (Flow.met_some 6 true 78 rfl rfl (by kernel_rfl) (by kernel_rfl) rfl rfl) (.inl rfl) (by kernel_rfl) (by kernel_rfl) rfl ?_
          refine Flow.pass_step (Reg.eqs (.int .i64 0)) (fun _ _ => Flow.kept_eqs _ _) (Flow.met_some 6 true 78 rfl rfl (by kernel_rfl) (by kernel_rfl) rfl rfl) (fun a W hH => ?_) ?_
          · have e0 := Flow.see_new 80 8 hH.sees (by kernel_rfl) (by kernel_rfl) rfl rfl
            have e1 := Flow.see_new 81 9 hH.sees (by kernel_rfl) (by kernel_rfl) rfl rfl
            have e2 := Flow.see_new 82 10 hH.sees (by kernel_rfl) (by kernel_rfl) rfl rfl
            refine Reg.wp_call rfl Tryz.func15 rfl (by kernel_rfl) (by simp [Act.eval, e0, e1, e2]) (rVerify_all (some ⟨w.heap.size, 7, none⟩) 68 68 g.key (by omega) (by omega) A1 SA.length k1 SA p1 A2 SB.length k2 SB p2 m2 W (gu_key (hA8.below ((Below.refl W8.heap.size W8).drew.trans hH.below) hA8.lt) HK.out) ((r18.below ((Below.refl W8.heap.size W8).drew.trans hH.below)).more hH.below.size) ((r28.below ((Below.refl W8.heap.size W8).drew.trans hH.below)).more hH.below.size)) ?_
            rintro e w' ⟨rfl, hB⟩
            rw [HVE.out]
            exact ⟨_, rfl, _, rfl, hB, rfl⟩
          refine Flow.pass_val (.bool true) (Flow.met_some 6 true 78 rfl rfl (by kernel_rfl) (by kernel_rfl) rfl rfl) (fun a W hH => ?_) ?_
          · have e0 := Flow.see_new 83 11 hH.sees (by kernel_rfl) (by kernel_rfl) rfl rfl
            go_simp; first | done | rfl | (simp; done)
          refine Flow.pass_val (.bool true) (Flow.met_none rfl) (fun a W hH => ?_) ?_
          · have e0 := Flow.see_new 78 6 hH.sees (by kernel_rfl) (by kernel_rfl) rfl rfl
            have e1 := Flow.see_new 84 12 hH.sees (by kernel_rfl) (by kernel_rfl) rfl rfl
            go_simp; first | done | rfl | (simp; done)
          refine Flow.pass_copy 85 13 (Flow.met_none rfl) (.inl rfl) (by kernel_rfl) (by kernel_rfl) rfl rfl (fun _ _ => Flow.kept_eqs _ _) ?_
          refine Flow.pass_old (X := .slice A3 SC.length k3) 14 (Flow.met_some 14 true 86 rfl rfl (by kernel_rfl) (by kernel_rfl) rfl rfl) (.inl rfl) (by kernel_rfl) (by kernel_rfl) rfl ?_
          refine Flow.pass_step (Reg.eqs (.agg (bcells (Sha.sum SC)).toArray)) (fun _ _ => Flow.kept_eqs _ _) (Flow.met_some 14 true 86 rfl rfl (by kernel_rfl) (by kernel_rfl) rfl rfl) (fun a W hH => ?_) ?_
          · have e0 := Flow.see_new 87 15 hH.sees (by kernel_rfl) (by kernel_rfl) rfl rfl
            refine Reg.wp_call rfl Tryz.func16 rfl (by kernel_rfl) (by simp [Act.eval, e0]) (rsum_any A3 SC.length k3 SC W ((r38.below ((Below.refl W8.heap.size W8).drew.trans hH.below)).more hH.below.size) hp3) ?_
            rintro e w' ⟨rfl, hB⟩
            exact ⟨_, rfl, _, rfl, hB, rfl⟩
          refine Flow.pass_val (.pointer (some ⟨b11, 3, none⟩)) (Flow.met_some 14 true 86 rfl rfl (by kernel_rfl) (by kernel_rfl) rfl rfl) (fun a W hH => ?_) ?_
          · have e0 := Flow.see_old 11 hH.sees (by kernel_rfl) (by kernel_rfl) rfl
            go_simp; first | done | rfl | (simp; done)
          refine Flow.pass_val (.agg (bcells HD.dig).toArray) (Flow.met_some 14 true 86 rfl rfl (by kernel_rfl) (by kernel_rfl) rfl rfl) (fun a W hH => ?_) ?_
          · have e0 := Flow.see_new 89 17 hH.sees (by kernel_rfl) (by kernel_rfl) rfl rfl
            exact reg_loadRng 39 _ rfl e0 (hd_digR (hh8.below ((Below.refl W8.heap.size W8).drew.trans hH.below) hh8.lt)) Tryz.underlying39 rfl (by rw [bcells_length, HH.out]; exact infNode)
          refine Flow.pass_val (.bool (Sha.sum SC == HD.dig)) (Flow.met_some 14 true 86 rfl rfl (by kernel_rfl) (by kernel_rfl) rfl rfl) (fun a W hH => ?_) ?_
          · have e0 := Flow.see_new 88 16 hH.sees (by kernel_rfl) (by kernel_rfl) rfl rfl
            have e1 := Flow.see_new 90 18 hH.sees (by kernel_rfl) (by kernel_rfl) rfl rfl
            exact reg_eqlT rfl (by simpa [Act.eval] using e0) (by simpa [Act.eval] using e1) nodeGuard (nodeEq _ _ (Sha.sum_length _) HH.out W)
          refine Flow.pass_val (.bool (Sha.sum SC == HD.dig)) (Flow.met_none rfl) (fun a W hH => ?_) ?_
          · have e0 := Flow.see_new 86 14 hH.sees (by kernel_rfl) (by kernel_rfl) rfl rfl
            have e1 := Flow.see_new 91 19 hH.sees (by kernel_rfl) (by kernel_rfl) rfl rfl
            go_simp; first | done | rfl | (simp; done)
          refine Flow.pass_copy 92 20 (Flow.met_none rfl) (.inr rfl) (by kernel_rfl) (by kernel_rfl) rfl rfl (fun _ _ => Flow.kept_eqs _ _) ?_
          refine Flow.pass_end [none, none, none, none, none, none, none, none, none, none, none, none, none, none, none, none, some 16, none, none, none, none, none, none, none, none, none, none, none, none, none, none, none, none, none, none, none, none, none, none, none, none, none, none, none, none, none, none, none, none, none, none, none, none, none, none, none, none, none, none, none, none, none, none, none, none, none, none, none, none, none, none, none, some 72, some 73, some 74, some 75, some 76, some 77, some 78, some 79, some 80, some 81, some 82, some 83, some 84, some 85, some 86, some 87, some 88, some 89, some 90, some 91, some 92, none, none, none, none, none, none, none, none, none, none, none, none, none, none, none, none, none, none, none, none, none, none, none, none, none, none, none, none, none, none, none, none, none, none, none, none, none, none, none, none, none, none] (by kernel_rfl) ?_
          intro f gg w9 hB hfa hT hfg
          have h16 : f 16 = _ := (hfg 16 21 (by kernel_rfl)).trans (hT 21 _ (by kernel_rfl) rfl)
          have BX := (Below.refl W8.heap.size W8).drew.trans hB
          simp only [Reg.sel, h16]
          have hAA := hA8.below BX hA8.lt
          have hbA := hb8.below BX hb8.lt
          have hvA := hv8.below BX hv8.lt
          have hhA := hh8.below BX hh8.lt
          have BA := B8.trans (BX.mono B8.size)
          obtain ⟨W10, hW10⟩ : ∃ W, W = w9 := ⟨_, rfl⟩
          subst hW10
          clear hT hfg hfa hB hA8 hb8 hv8 hh8 B8 BX r18 r28 r38 h16
          cases hQ : (Sha.sum SC == HD.dig) with
          | false =>
            have hEf : (E == 0) = false := by
              rw [← HE.out]
              refine vErr_ne 2 (by omega) ?_
              show e2 l g ≠ 0
              rw [e2, qP.out, qH.out, if_neg (fun h => by rw [h] at hQ; simp at hQ)]
              decide
            have HEF := Lib.hid hEf
            clear hEf hQ
            go_wp2_with fail
            refine Flow.wp_region_flow (W10.heap.size) [] [] (by kernel_rfl) (by kernel_rfl) (Nat.le_refl _) (fun _ h => by cases h) Flow.facts_nil ?_
            refine Flow.pass_old (X := .bool false) 16 (Flow.met_none rfl) (.inl rfl) (by kernel_rfl) (by kernel_rfl) rfl ?_
            refine Flow.pass_copy 93 0 (Flow.met_none rfl) (.inl rfl) (by kernel_rfl) (by kernel_rfl) rfl rfl (fun _ _ => Flow.kept_eqs _ _) ?_
            refine Flow.pass_skip (fun a W hH => Flow.not_wanted 1 true 94 hH rfl rfl (by kernel_rfl) (by kernel_rfl) rfl rfl) ?_
            refine Flow.pass_skip (fun a W hH => Flow.not_wanted 1 true 94 hH rfl rfl (by kernel_rfl) (by kernel_rfl) rfl rfl) ?_
            refine Flow.pass_skip (fun a W hH => Flow.not_wanted 1 true 94 hH rfl rfl (by kernel_rfl) (by kernel_rfl) rfl rfl) ?_
            refine Flow.pass_skip (fun a W hH => Flow.not_wanted 1 true 94 hH rfl rfl (by kernel_rfl) (by kernel_rfl) rfl rfl) ?_
            refine Flow.pass_skip (fun a W hH => Flow.not_wanted 1 true 94 hH rfl rfl (by kernel_rfl) (by kernel_rfl) rfl rfl) ?_
            refine Flow.pass_val (.bool false) (Flow.met_none rfl) (fun a W hH => ?_) ?_
            · have e0 := Flow.see_new 94 1 hH.sees (by kernel_rfl) (by kernel_rfl) rfl rfl
              have e1 := Flow.see_new 99 6 hH.sees (by kernel_rfl) (by kernel_rfl) rfl rfl
              go_simp; first | done | rfl | (simp; done)
            refine Flow.pass_copy 100 7 (Flow.met_none rfl) (.inl rfl) (by kernel_rfl) (by kernel_rfl) rfl rfl (fun _ _ => Flow.kept_eqs _ _) ?_
            refine Flow.pass_skip (fun a W hH => Flow.not_wanted 8 true 101 hH rfl rfl (by kernel_rfl) (by kernel_rfl) rfl rfl) ?_
            refine Flow.pass_skip (fun a W hH => Flow.not_wanted 8 true 101 hH rfl rfl (by kernel_rfl) (by kernel_rfl) rfl rfl) ?_
            refine Flow.pass_skip (fun a W hH => Flow.not_wanted 8 true 101 hH rfl rfl (by kernel_rfl) (by kernel_rfl) rfl rfl) ?_
            refine Flow.pass_skip (fun a W hH => Flow.not_wanted 8 true 101 hH rfl rfl (by kernel_rfl) (by kernel_rfl) rfl rfl) ?_
            refine Flow.pass_val (.bool false) (Flow.met_none rfl) (fun a W hH => ?_) ?_
            · have e0 := Flow.see_new 101 8 hH.sees (by kernel_rfl) (by kernel_rfl) rfl rfl
              have e1 := Flow.see_new 105 12 hH.sees (by kernel_rfl) (by kernel_rfl) rfl rfl
              go_simp; first | done | rfl | (simp; done)
            refine Flow.pass_copy 106 13 (Flow.met_none rfl) (.inl rfl) (by kernel_rfl) (by kernel_rfl) rfl rfl (fun _ _ => Flow.kept_eqs _ _) ?_
            refine Flow.pass_skip (fun a W hH => Flow.not_wanted 14 true 107 hH rfl rfl (by kernel_rfl) (by kernel_rfl) rfl rfl) ?_
            refine Flow.pass_skip (fun a W hH => Flow.not_wanted 14 true 107 hH rfl rfl (by kernel_rfl) (by kernel_rfl) rfl rfl) ?_
            refine Flow.pass_skip (fun a W hH => Flow.not_wanted 14 true 107 hH rfl rfl (by kernel_rfl) (by kernel_rfl) rfl rfl) ?_
            refine Flow.pass_skip (fun a W hH => Flow.not_wanted 14 true 107 hH rfl rfl (by kernel_rfl) (by kernel_rfl) rfl rfl) ?_
            refine Flow.pass_skip (fun a W hH => Flow.not_wanted 14 true 107 hH rfl rfl (by kernel_rfl) (by kernel_rfl) rfl rfl) ?_
            refine Flow.pass_skip (fun a W hH => Flow.not_wanted 14 true 107 hH rfl rfl (by kernel_rfl) (by kernel_rfl) rfl rfl) ?_
            refine Flow.pass_skip (fun a W hH => Flow.not_wanted 14 true 107 hH rfl rfl (by kernel_rfl) (by kernel_rfl) rfl rfl) ?_
            refine Flow.pass_skip (fun a W hH => Flow.not_wanted 14 true 107 hH rfl rfl (by kernel_rfl) (by kernel_rfl) rfl rfl) ?_
            refine Flow.pass_skip (fun a W hH => Flow.not_wanted 14 true 107 hH rfl rfl (by kernel_rfl) (by kernel_rfl) rfl rfl) ?_
            refine Flow.pass_val (.bool false) (Flow.met_none rfl) (fun a W hH => ?_) ?_
            · have e0 := Flow.see_new 107 14 hH.sees (by kernel_rfl) (by kernel_rfl) rfl rfl
              have e1 := Flow.see_new 116 23 hH.sees (by kernel_rfl) (by kernel_rfl) rfl rfl
              go_simp; first | done | rfl | (simp; done)
            refine Flow.pass_copy 117 24 (Flow.met_none rfl) (.inr rfl) (by kernel_rfl) (by kernel_rfl) rfl rfl (fun _ _ => Flow.kept_eqs _ _) ?_
            refine Flow.pass_end [none, none, none, none, none, none, none, none, none, none, none, none, none, none, none, none, some 16, none, none, none, none, none, none, none, none, none, none, none, none, none, none, none, none, none, none, none, none, none, none, none, none, none, none, none, none, none, none, none, none, none, none, none, none, none, none, none, none, none, none, none, none, none, none, none, none, none, none, none, none, none, none, none, none, none, none, none, none, none, none, none, none, none, none, none, none, none, none, none, none, none, none, none, none, some 93, some 94, some 95, some 96, some 97, some 98, some 99, some 100, some 101, some 102, some 103, some 104, some 105, some 106, some 107, some 108, some 109, some 110, some 111, some 112, some 113, some 114, some 115, some 116, some 117, none, none, none, none, none, none, none, none, none, none, none, none, none, none, none, none, none] (by kernel_rfl) ?_
            intro f gg w9 hB hfa hT hfg
            have h16 : f 16 = _ := (hfg 16 25 (by kernel_rfl)).trans (hT 25 _ (by kernel_rfl) rfl)
            simp only [Reg.sel, h16]
            have BY := (Below.refl W10.heap.size W10).drew.trans hB
            have hvB := hvA.below BY hvA.lt
            have cE := vd_e hvB
            have BB := BA.trans (BY.mono BA.size)
            have hEn := HEF.out
            clear hT hfg hfa hB hAA hbA hvA hhA BA BY h16
            go_wp2
            go_ret
            exact ⟨rfl, BB⟩
          | true =>
            have hz2 : Hid (errAt l g c 2 = 0) := Lib.hid (by show e2 l g = 0; rw [e2, qP.out, qH.out, if_pos (by simpa using hQ)])
            clear hQ
            by_cases hn : HD.name = g.name
            · have hz3 : Hid (errAt l g c 3 = 0) := Lib.hid (by show e3 l g = 0; rw [e3, qH.out, if_pos hn])
              have hsn : (HD.name == g.name) = true := by simpa using hn
              clear hn
              by_cases h3 : 0 < g.wn
              · obtain ⟨wb, wo, hwA, hwlt, hwc⟩ := ok.win h3
                have hwA := Lib.hid hwA
                have hwl : wb < W10.heap.size := Nat.lt_of_lt_of_le hwlt BA.size
                have hwc : W10.cell? ⟨wb, wo + 2, none⟩ = some (.int .u64 (g.wsz : Int)) := (World.cell?_of_block (BA.block wb hwlt)).trans hwc
                have hw1 : IntKind.u64.wrap (HD.size : Int) = (HD.size : Int) := IntWalk.u64_in _ (by omega)
                clear hwlt
                go_wp2_with fail
                refine Flow.wp_region_flow (W10.heap.size) [] [] (by kernel_rfl) (by kernel_rfl) (Nat.le_refl _) (fun _ h => by cases h) Flow.facts_nil ?_
                refine Flow.pass_old (X := .bool true) 16 (Flow.met_none rfl) (.inl rfl) (by kernel_rfl) (by kernel_rfl) rfl ?_
                refine Flow.pass_copy 93 0 (Flow.met_none rfl) (.inl rfl) (by kernel_rfl) (by kernel_rfl) rfl rfl (fun _ _ => Flow.kept_eqs _ _) ?_
                refine Flow.pass_val (.pointer (some ⟨b11, 2, none⟩)) (Flow.met_some 1 true 94 rfl rfl (by kernel_rfl) (by kernel_rfl) rfl rfl) (fun a W hH => ?_) ?_
                · have e0 := Flow.see_old 11 hH.sees (by kernel_rfl) (by kernel_rfl) rfl
                  go_simp; first | done | rfl | (simp; done)
                refine Flow.pass_val (.string ⟨HD.name.toArray⟩) (Flow.met_some 1 true 94 rfl rfl (by kernel_rfl) (by kernel_rfl) rfl rfl) (fun a W hH => ?_) ?_
                · have e0 := Flow.see_new 95 2 hH.sees (by kernel_rfl) (by kernel_rfl) rfl rfl
                  have cc := ((hhA.below ((Below.refl W10.heap.size W10).drew.trans hH.below) hhA.lt).cell 2).trans (rfl : (hdCells HD).toArray[2]? = _); go_simp; first | done | rfl
                refine Flow.pass_val (.pointer (some ⟨w.heap.size, 0, none⟩)) (Flow.met_some 1 true 94 rfl rfl (by kernel_rfl) (by kernel_rfl) rfl rfl) (fun a W hH => ?_) ?_
                · have e0 := Flow.see_old 4 hH.sees (by kernel_rfl) (by kernel_rfl) rfl
                  go_simp; first | done | rfl | (simp; done)
                refine Flow.pass_val (.string ⟨g.name.toArray⟩) (Flow.met_some 1 true 94 rfl rfl (by kernel_rfl) (by kernel_rfl) rfl rfl) (fun a W hH => ?_) ?_
                · have e0 := Flow.see_new 97 4 hH.sees (by kernel_rfl) (by kernel_rfl) rfl rfl
                  have cc := ((hAA.below ((Below.refl W10.heap.size W10).drew.trans hH.below) hAA.lt).cell 0).trans (rfl : g.cells.toArray[0]? = _); go_simp; first | done | rfl
                refine Flow.pass_val (.bool true) (Flow.met_some 1 true 94 rfl rfl (by kernel_rfl) (by kernel_rfl) rfl rfl) (fun a W hH => ?_) ?_
                · have e0 := Flow.see_new 96 3 hH.sees (by kernel_rfl) (by kernel_rfl) rfl rfl
                  have e1 := Flow.see_new 98 5 hH.sees (by kernel_rfl) (by kernel_rfl) rfl rfl
                  go_simp; first | done | rfl | (simp; done)
                refine Flow.pass_val (.bool true) (Flow.met_none rfl) (fun a W hH => ?_) ?_
                · have e0 := Flow.see_new 94 1 hH.sees (by kernel_rfl) (by kernel_rfl) rfl rfl
                  have e1 := Flow.see_new 99 6 hH.sees (by kernel_rfl) (by kernel_rfl) rfl rfl
                  go_simp; first | done | rfl | (simp; done)
                refine Flow.pass_copy 100 7 (Flow.met_none rfl) (.inl rfl) (by kernel_rfl) (by kernel_rfl) rfl rfl (fun _ _ => Flow.kept_eqs _ _) ?_
                refine Flow.pass_val (.pointer (some ⟨w.heap.size, 75, none⟩)) (Flow.met_some 8 true 101 rfl rfl (by kernel_rfl) (by kernel_rfl) rfl rfl) (fun a W hH => ?_) ?_
                · have e0 := Flow.see_old 4 hH.sees (by kernel_rfl) (by kernel_rfl) rfl
                  go_simp; first | done | rfl | (simp; done)
                refine Flow.pass_val (.slice (some ⟨wb, wo, none⟩) g.wn g.wc) (Flow.met_some 8 true 101 rfl rfl (by kernel_rfl) (by kernel_rfl) rfl rfl) (fun a W hH => ?_) ?_
                · have e0 := Flow.see_new 102 9 hH.sees (by kernel_rfl) (by kernel_rfl) rfl rfl
                  have cc := gu_win (hAA.below ((Below.refl W10.heap.size W10).drew.trans hH.below) hAA.lt) HK.out; rw [hwA.out] at cc; go_simp; first | done | rfl
                refine Flow.pass_val (.int .i64 (g.wn : Int)) (Flow.met_some 8 true 101 rfl rfl (by kernel_rfl) (by kernel_rfl) rfl rfl) (fun a W hH => ?_) ?_
                · have e0 := Flow.see_new 103 10 hH.sees (by kernel_rfl) (by kernel_rfl) rfl rfl
                  go_simp; first | done | rfl | (simp; done)
                refine Flow.pass_val (.bool true) (Flow.met_some 8 true 101 rfl rfl (by kernel_rfl) (by kernel_rfl) rfl rfl) (fun a W hH => ?_) ?_
                · have e0 := Flow.see_new 104 11 hH.sees (by kernel_rfl) (by kernel_rfl) rfl rfl
                  go_simp; first | done | rfl | (simp; omega)
                refine Flow.pass_val (.bool true) (Flow.met_none rfl) (fun a W hH => ?_) ?_
                · have e0 := Flow.see_new 101 8 hH.sees (by kernel_rfl) (by kernel_rfl) rfl rfl
                  have e1 := Flow.see_new 105 12 hH.sees (by kernel_rfl) (by kernel_rfl) rfl rfl
                  go_simp; first | done | rfl | (simp; done)
                refine Flow.pass_copy 106 13 (Flow.met_none rfl) (.inl rfl) (by kernel_rfl) (by kernel_rfl) rfl rfl (fun _ _ => Flow.kept_eqs _ _) ?_
                refine Flow.pass_val (.pointer (some ⟨b11, 1, none⟩)) (Flow.met_some 14 true 107 rfl rfl (by kernel_rfl) (by kernel_rfl) rfl rfl) (fun a W hH => ?_) ?_
                · have e0 := Flow.see_old 11 hH.sees (by kernel_rfl) (by kernel_rfl) rfl
                  go_simp; first | done | rfl | (simp; done)
                refine Flow.pass_val (.int .u32 (HD.size : Int)) (Flow.met_some 14 true 107 rfl rfl (by kernel_rfl) (by kernel_rfl) rfl rfl) (fun a W hH => ?_) ?_
                · have e0 := Flow.see_new 108 15 hH.sees (by kernel_rfl) (by kernel_rfl) rfl rfl
                  have cc := ((hhA.below ((Below.refl W10.heap.size W10).drew.trans hH.below) hhA.lt).cell 1).trans (rfl : (hdCells HD).toArray[1]? = _); go_simp; first | done | rfl
                refine Flow.pass_val (.int .u64 (HD.size : Int)) (Flow.met_some 14 true 107 rfl rfl (by kernel_rfl) (by kernel_rfl) rfl rfl) (fun a W hH => ?_) ?_
                · have e0 := Flow.see_new 109 16 hH.sees (by kernel_rfl) (by kernel_rfl) rfl rfl
                  have hw := hw1; go_simp; first | done | rfl
                refine Flow.pass_val (.pointer (some ⟨w.heap.size, 75, none⟩)) (Flow.met_some 14 true 107 rfl rfl (by kernel_rfl) (by kernel_rfl) rfl rfl) (fun a W hH => ?_) ?_
                · have e0 := Flow.see_old 4 hH.sees (by kernel_rfl) (by kernel_rfl) rfl
                  go_simp; first | done | rfl | (simp; done)
                refine Flow.pass_val (.slice (some ⟨wb, wo, none⟩) g.wn g.wc) (Flow.met_some 14 true 107 rfl rfl (by kernel_rfl) (by kernel_rfl) rfl rfl) (fun a W hH => ?_) ?_
                · have e0 := Flow.see_new 111 18 hH.sees (by kernel_rfl) (by kernel_rfl) rfl rfl
                  have cc := gu_win (hAA.below ((Below.refl W10.heap.size W10).drew.trans hH.below) hAA.lt) HK.out; rw [hwA.out] at cc; go_simp; first | done | rfl
                refine Flow.pass_val (.pointer (some ⟨wb, wo, none⟩)) (Flow.met_some 14 true 107 rfl rfl (by kernel_rfl) (by kernel_rfl) rfl rfl) (fun a W hH => ?_) ?_
                · have e0 := Flow.see_new 112 19 hH.sees (by kernel_rfl) (by kernel_rfl) rfl rfl
                  exact reg_ixS (s := 4) 0 wo rfl Tryz.underlying26 (by kernel_rfl) (by simpa [Act.eval] using e0) (by simp [Act.eval]; rfl) rfl (by omega) (by omega)
                refine Flow.pass_val (.pointer (some ⟨wb, wo + 2, none⟩)) (Flow.met_some 14 true 107 rfl rfl (by kernel_rfl) (by kernel_rfl) rfl rfl) (fun a W hH => ?_) ?_
                · have e0 := Flow.see_new 113 20 hH.sees (by kernel_rfl) (by kernel_rfl) rfl rfl
                  go_simp; first | done | rfl | (simp; done)
                refine Flow.pass_val (.int .u64 (g.wsz : Int)) (Flow.met_some 14 true 107 rfl rfl (by kernel_rfl) (by kernel_rfl) rfl rfl) (fun a W hH => ?_) ?_
                · have e0 := Flow.see_new 114 21 hH.sees (by kernel_rfl) (by kernel_rfl) rfl rfl
                  have cc := (World.cell?_of_block (((Below.refl W10.heap.size W10).drew.trans hH.below).block wb hwl)).trans hwc; go_simp; first | done | rfl
                refine Flow.pass_val (.bool (decide ((HD.size : Int) ≤ (g.wsz : Int)))) (Flow.met_some 14 true 107 rfl rfl (by kernel_rfl) (by kernel_rfl) rfl rfl) (fun a W hH => ?_) ?_
                · have e0 := Flow.see_new 110 17 hH.sees (by kernel_rfl) (by kernel_rfl) rfl rfl
                  have e1 := Flow.see_new 115 22 hH.sees (by kernel_rfl) (by kernel_rfl) rfl rfl
                  go_simp; first | done | rfl | (simp; done)
                refine Flow.pass_val (.bool (decide ((HD.size : Int) ≤ (g.wsz : Int)))) (Flow.met_none rfl) (fun a W hH => ?_) ?_
                · have e0 := Flow.see_new 107 14 hH.sees (by kernel_rfl) (by kernel_rfl) rfl rfl
                  have e1 := Flow.see_new 116 23 hH.sees (by kernel_rfl) (by kernel_rfl) rfl rfl
                  go_simp; first | done | rfl | (simp; done)
                refine Flow.pass_copy 117 24 (Flow.met_none rfl) (.inr rfl) (by kernel_rfl) (by kernel_rfl) rfl rfl (fun _ _ => Flow.kept_eqs _ _) ?_
                refine Flow.pass_end [none, none, none, none, none, none, none, none, none, none, none, none, none, none, none, none, some 16, none, none, none, none, none, none, none, none, none, none, none, none, none, none, none, none, none, none, none, none, none, none, none, none, none, none, none, none, none, none, none, none, none, none, none, none, none, none, none, none, none, none, none, none, none, none, none, none, none, none, none, none, none, none, none, none, none, none, none, none, none, none, none, none, none, none, none, none, none, none, none, none, none, none, none, none, some 93, some 94, some 95, some 96, some 97, some 98, some 99, some 100, some 101, some 102, some 103, some 104, some 105, some 106, some 107, some 108, some 109, some 110, some 111, some 112, some 113, some 114, some 115, some 116, some 117, none, none, none, none, none, none, none, none, none, none, none, none, none, none, none, none, none] (by kernel_rfl) ?_
                intro f gg w9 hB hfa hT hfg
                have h16 : f 16 = _ := (hfg 16 25 (by kernel_rfl)).trans (hT 25 _ (by kernel_rfl) rfl)
                simp only [Reg.sel, h16]
                have BY := (Below.refl W10.heap.size W10).drew.trans hB
                have hvB := hvA.below BY hvA.lt
                have hbB := hbA.below BY hbA.lt
                have hhB := hhA.below BY hhA.lt
                have cE := vd_e hvB
                have cc0 : w9.cell? ⟨w.heap.size + 1, 0, none⟩ = some (.int .u32 (c.val : Int)) := (hbB.cell 0).trans rfl
                have cc1 : w9.cell? ⟨w.heap.size + 1, 1, none⟩ = some (.int .i64 c.err) := (hbB.cell 1).trans rfl
                have ch0 : w9.cell? ⟨b11, 0, none⟩ = some (.int .u32 (HD.ver : Int)) := (hhB.cell 0).trans rfl
                have BB := BA.trans (BY.mono BA.size)
                clear hT hfg hfa hB hAA hbA hvA hhA BA BY h16 hvB hbB hhB
                by_cases h4 : HD.size ≤ g.wsz
                · have hd4 : decide ((HD.size : Int) ≤ (g.wsz : Int)) = true := decide_eq_true (by omega)
                  rw [hd4]
                  have hz4 : errAt l g c 4 = 0 := by show e4 l g = 0; rw [e4, qH.out, if_pos ⟨h3, h4⟩]
                  by_cases h5 : c.err = 0
                  · by_cases h6 : c.val ≤ HD.ver
                    · have hE0 : E = 0 := by
                        rw [← HE.out]
                        exact vErr_ok (fun i hi => by
                          match i, hi with
                          | 0, _ => rw [q0.out]; simp
                          | 1, _ => rw [q1.out]
                          | 2, _ => exact hz2.out
                          | 3, _ => exact hz3.out
                          | 4, _ => exact hz4
                          | 5, _ => show e5 c = 0; rw [e5, if_pos h5]
                          | 6, _ => show e6 l g c = 0; rw [e6, qH.out, if_pos h6])
                      subst hE0
                      rw [h5] at cc1
                      have hd6 : decide (c.val ≤ HD.ver) = true := decide_eq_true h6
                      clear h4 h5 h6 hz4
                      go_wp2
                      go_ret
                      exact ⟨rfl, BB⟩
                    · have hEn : (E == 0) = false := by
                        rw [← HE.out]
                        refine vErr_ne 6 (by omega) ?_
                        show e6 l g c ≠ 0
                        rw [e6, qH.out, if_neg h6]; decide
                      rw [h5] at cc1
                      have hd6 : decide (c.val ≤ HD.ver) = false := decide_eq_false h6
                      clear h4 h5 h6 hz4
                      go_wp2
                      go_ret
                      exact ⟨rfl, BB⟩
                  · have hEn : (E == 0) = false := by
                      rw [← HE.out]
                      refine vErr_ne 5 (by omega) ?_
                      show e5 c ≠ 0
                      rw [e5, if_neg h5]; decide
                    have hcn : (c.err == 0) = false := by simpa using h5
                    clear h4 h5 hz4
                    go_wp2
                    go_ret
                    exact ⟨rfl, BB⟩
                · have hd4 : decide ((HD.size : Int) ≤ (g.wsz : Int)) = false := decide_eq_false (by omega)
                  rw [hd4]
                  have hEn : (E == 0) = false := by
                    rw [← HE.out]
                    refine vErr_ne 4 (by omega) ?_
                    show e4 l g ≠ 0
                    rw [e4, qH.out, if_neg (fun h => h4 h.2)]; decide
                  clear h4
                  go_wp2
                  go_ret
                  exact ⟨rfl, BB⟩
              · have hEf : (E == 0) = false := by
                  rw [← HE.out]
                  refine vErr_ne 4 (by omega) ?_
                  show e4 l g ≠ 0
                  rw [e4, if_neg (fun h => h3 h.1)]; decide
                have HEF := Lib.hid hEf
                clear hEf
                go_wp2_with fail
                refine Flow.wp_region_flow (W10.heap.size) [] [] (by kernel_rfl) (by kernel_rfl) (Nat.le_refl _) (fun _ h => by cases h) Flow.facts_nil ?_
                refine Flow.pass_old (X := .bool true) 16 (Flow.met_none rfl) (.inl rfl) (by kernel_rfl) (by kernel_rfl) rfl ?_
                refine Flow.pass_copy 93 0 (Flow.met_none rfl) (.inl rfl) (by kernel_rfl) (by kernel_rfl) rfl rfl (fun _ _ => Flow.kept_eqs _ _) ?_
                refine Flow.pass_val (.pointer (some ⟨b11, 2, none⟩)) (Flow.met_some 1 true 94 rfl rfl (by kernel_rfl) (by kernel_rfl) rfl rfl) (fun a W hH => ?_) ?_
                · have e0 := Flow.see_old 11 hH.sees (by kernel_rfl) (by kernel_rfl) rfl
                  go_simp; first | done | rfl | (simp; done)
                refine Flow.pass_val (.string ⟨HD.name.toArray⟩) (Flow.met_some 1 true 94 rfl rfl (by kernel_rfl) (by kernel_rfl) rfl rfl) (fun a W hH => ?_) ?_
                · have e0 := Flow.see_new 95 2 hH.sees (by kernel_rfl) (by kernel_rfl) rfl rfl
                  have cc := ((hhA.below ((Below.refl W10.heap.size W10).drew.trans hH.below) hhA.lt).cell 2).trans (rfl : (hdCells HD).toArray[2]? = _); go_simp; first | done | rfl
                refine Flow.pass_val (.pointer (some ⟨w.heap.size, 0, none⟩)) (Flow.met_some 1 true 94 rfl rfl (by kernel_rfl) (by kernel_rfl) rfl rfl) (fun a W hH => ?_) ?_
                · have e0 := Flow.see_old 4 hH.sees (by kernel_rfl) (by kernel_rfl) rfl
                  go_simp; first | done | rfl | (simp; done)
                refine Flow.pass_val (.string ⟨g.name.toArray⟩) (Flow.met_some 1 true 94 rfl rfl (by kernel_rfl) (by kernel_rfl) rfl rfl) (fun a W hH => ?_) ?_
                · have e0 := Flow.see_new 97 4 hH.sees (by kernel_rfl) (by kernel_rfl) rfl rfl
                  have cc := ((hAA.below ((Below.refl W10.heap.size W10).drew.trans hH.below) hAA.lt).cell 0).trans (rfl : g.cells.toArray[0]? = _); go_simp; first | done | rfl
                refine Flow.pass_val (.bool true) (Flow.met_some 1 true 94 rfl rfl (by kernel_rfl) (by kernel_rfl) rfl rfl) (fun a W hH => ?_) ?_
                · have e0 := Flow.see_new 96 3 hH.sees (by kernel_rfl) (by kernel_rfl) rfl rfl
                  have e1 := Flow.see_new 98 5 hH.sees (by kernel_rfl) (by kernel_rfl) rfl rfl
                  go_simp; first | done | rfl | (simp; done)
                refine Flow.pass_val (.bool true) (Flow.met_none rfl) (fun a W hH => ?_) ?_
                · have e0 := Flow.see_new 94 1 hH.sees (by kernel_rfl) (by kernel_rfl) rfl rfl
                  have e1 := Flow.see_new 99 6 hH.sees (by kernel_rfl) (by kernel_rfl) rfl rfl
                  go_simp; first | done | rfl | (simp; done)
                refine Flow.pass_copy 100 7 (Flow.met_none rfl) (.inl rfl) (by kernel_rfl) (by kernel_rfl) rfl rfl (fun _ _ => Flow.kept_eqs _ _) ?_
                refine Flow.pass_val (.pointer (some ⟨w.heap.size, 75, none⟩)) (Flow.met_some 8 true 101 rfl rfl (by kernel_rfl) (by kernel_rfl) rfl rfl) (fun a W hH => ?_) ?_
                · have e0 := Flow.see_old 4 hH.sees (by kernel_rfl) (by kernel_rfl) rfl
                  go_simp; first | done | rfl | (simp; done)
                refine Flow.pass_val (.slice g.wA g.wn g.wc) (Flow.met_some 8 true 101 rfl rfl (by kernel_rfl) (by kernel_rfl) rfl rfl) (fun a W hH => ?_) ?_
                · have e0 := Flow.see_new 102 9 hH.sees (by kernel_rfl) (by kernel_rfl) rfl rfl
                  have cc := gu_win (hAA.below ((Below.refl W10.heap.size W10).drew.trans hH.below) hAA.lt) HK.out; go_simp; first | done | rfl
                refine Flow.pass_val (.int .i64 (g.wn : Int)) (Flow.met_some 8 true 101 rfl rfl (by kernel_rfl) (by kernel_rfl) rfl rfl) (fun a W hH => ?_) ?_
                · have e0 := Flow.see_new 103 10 hH.sees (by kernel_rfl) (by kernel_rfl) rfl rfl
                  go_simp; first | done | rfl | (simp; done)
                refine Flow.pass_val (.bool false) (Flow.met_some 8 true 101 rfl rfl (by kernel_rfl) (by kernel_rfl) rfl rfl) (fun a W hH => ?_) ?_
                · have e0 := Flow.see_new 104 11 hH.sees (by kernel_rfl) (by kernel_rfl) rfl rfl
                  go_simp; first | done | rfl | (simp; omega)
                refine Flow.pass_val (.bool false) (Flow.met_none rfl) (fun a W hH => ?_) ?_
                · have e0 := Flow.see_new 101 8 hH.sees (by kernel_rfl) (by kernel_rfl) rfl rfl
                  have e1 := Flow.see_new 105 12 hH.sees (by kernel_rfl) (by kernel_rfl) rfl rfl
                  go_simp; first | done | rfl | (simp; done)
                refine Flow.pass_copy 106 13 (Flow.met_none rfl) (.inl rfl) (by kernel_rfl) (by kernel_rfl) rfl rfl (fun _ _ => Flow.kept_eqs _ _) ?_
                refine Flow.pass_skip (fun a W hH => Flow.not_wanted 14 true 107 hH rfl rfl (by kernel_rfl) (by kernel_rfl) rfl rfl) ?_
                refine Flow.pass_skip (fun a W hH => Flow.not_wanted 14 true 107 hH rfl rfl (by kernel_rfl) (by kernel_rfl) rfl rfl) ?_
                refine Flow.pass_skip (fun a W hH => Flow.not_wanted 14 true 107 hH rfl rfl (by kernel_rfl) (by kernel_rfl) rfl rfl) ?_
                refine Flow.pass_skip (fun a W hH => Flow.not_wanted 14 true 107 hH rfl rfl (by kernel_rfl) (by kernel_rfl) rfl rfl) ?_
                refine Flow.pass_skip (fun a W hH => Flow.not_wanted 14 true 107 hH rfl rfl (by kernel_rfl) (by kernel_rfl) rfl rfl) ?_
                refine Flow.pass_skip (fun a W hH => Flow.not_wanted 14 true 107 hH rfl rfl (by kernel_rfl) (by kernel_rfl) rfl rfl) ?_
                refine Flow.pass_skip (fun a W hH => Flow.not_wanted 14 true 107 hH rfl rfl (by kernel_rfl) (by kernel_rfl) rfl rfl) ?_
                refine Flow.pass_skip (fun a W hH => Flow.not_wanted 14 true 107 hH rfl rfl (by kernel_rfl) (by kernel_rfl) rfl rfl) ?_
                refine Flow.pass_skip (fun a W hH => Flow.not_wanted 14 true 107 hH rfl rfl (by kernel_rfl) (by kernel_rfl) rfl rfl) ?_
                refine Flow.pass_val (.bool false) (Flow.met_none rfl) (fun a W hH => ?_) ?_
                · have e0 := Flow.see_new 107 14 hH.sees (by kernel_rfl) (by kernel_rfl) rfl rfl
                  have e1 := Flow.see_new 116 23 hH.sees (by kernel_rfl) (by kernel_rfl) rfl rfl
                  go_simp; first | done | rfl | (simp; done)
                refine Flow.pass_copy 117 24 (Flow.met_none rfl) (.inr rfl) (by kernel_rfl) (by kernel_rfl) rfl rfl (fun _ _ => Flow.kept_eqs _ _) ?_
                refine Flow.pass_end [none, none, none, none, none, none, none, none, none, none, none, none, none, none, none, none, some 16, none, none, none, none, none, none, none, none, none, none, none, none, none, none, none, none, none, none, none, none, none, none, none, none, none, none, none, none, none, none, none, none, none, none, none, none, none, none, none, none, none, none, none, none, none, none, none, none, none, none, none, none, none, none, none, none, none, none, none, none, none, none, none, none, none, none, none, none, none, none, none, none, none, none, none, none, some 93, some 94, some 95, some 96, some 97, some 98, some 99, some 100, some 101, some 102, some 103, some 104, some 105, some 106, some 107, some 108, some 109, some 110, some 111, some 112, some 113, some 114, some 115, some 116, some 117, none, none, none, none, none, none, none, none, none, none, none, none, none, none, none, none, none] (by kernel_rfl) ?_
                intro f gg w9 hB hfa hT hfg
                have h16 : f 16 = _ := (hfg 16 25 (by kernel_rfl)).trans (hT 25 _ (by kernel_rfl) rfl)
                simp only [Reg.sel, h16]
                have BY := (Below.refl W10.heap.size W10).drew.trans hB
                have hvB := hvA.below BY hvA.lt
                have cE := vd_e hvB
                have BB := BA.trans (BY.mono BA.size)
                have hEn := HEF.out
                clear hT hfg hfa hB hAA hbA hvA hhA BA BY h16
                go_wp2
                go_ret
                exact ⟨rfl, BB⟩
            · have hsn : (HD.name == g.name) = false := by simpa using hn
              have hEf : (E == 0) = false := by
                rw [← HE.out]
                refine vErr_ne 3 (by omega) ?_
                show e3 l g ≠ 0
                rw [e3, qH.out, if_neg hn]; decide
              have HEF := Lib.hid hEf
              clear hEf hn
              go_wp2_with fail
              refine Flow.wp_region_flow (W10.heap.size) [] [] (by kernel_rfl) (by kernel_rfl) (Nat.le_refl _) (fun _ h => by cases h) Flow.facts_nil ?_
              refine Flow.pass_old (X := .bool true) 16 (Flow.met_none rfl) (.inl rfl) (by kernel_rfl) (by kernel_rfl) rfl ?_
              refine Flow.pass_copy 93 0 (Flow.met_none rfl) (.inl rfl) (by kernel_rfl) (by kernel_rfl) rfl rfl (fun _ _ => Flow.kept_eqs _ _) ?_
              refine Flow.pass_val (.pointer (some ⟨b11, 2, none⟩)) (Flow.met_some 1 true 94 rfl rfl (by kernel_rfl) (by kernel_rfl) rfl rfl) (fun a W hH => ?_) ?_
              · have e0 := Flow.see_old 11 hH.sees (by kernel_rfl) (by kernel_rfl) rfl
                go_simp; first | done | rfl | (simp; done)
              refine Flow.pass_val (.string ⟨HD.name.toArray⟩) (Flow.met_some 1 true 94 rfl rfl (by kernel_rfl) (by kernel_rfl) rfl rfl) (fun a W hH => ?_) ?_
              · have e0 := Flow.see_new 95 2 hH.sees (by kernel_rfl) (by kernel_rfl) rfl rfl
                have cc := ((hhA.below ((Below.refl W10.heap.size W10).drew.trans hH.below) hhA.lt).cell 2).trans (rfl : (hdCells HD).toArray[2]? = _); go_simp; first | done | rfl
              refine Flow.pass_val (.pointer (some ⟨w.heap.size, 0, none⟩)) (Flow.met_some 1 true 94 rfl rfl (by kernel_rfl) (by kernel_rfl) rfl rfl) (fun a W hH => ?_) ?_
              · have e0 := Flow.see_old 4 hH.sees (by kernel_rfl) (by kernel_rfl) rfl
                go_simp; first | done | rfl | (simp; done)
              refine Flow.pass_val (.string ⟨g.name.toArray⟩) (Flow.met_some 1 true 94 rfl rfl (by kernel_rfl) (by kernel_rfl) rfl rfl) (fun a W hH => ?_) ?_
              · have e0 := Flow.see_new 97 4 hH.sees (by kernel_rfl) (by kernel_rfl) rfl rfl
                have cc := ((hAA.below ((Below.refl W10.heap.size W10).drew.trans hH.below) hAA.lt).cell 0).trans (rfl : g.cells.toArray[0]? = _); go_simp; first | done | rfl
              refine Flow.pass_val (.bool false) (Flow.met_some 1 true 94 rfl rfl (by kernel_rfl) (by kernel_rfl) rfl rfl) (fun a W hH => ?_) ?_
              · have e0 := Flow.see_new 96 3 hH.sees (by kernel_rfl) (by kernel_rfl) rfl rfl
                have e1 := Flow.see_new 98 5 hH.sees (by kernel_rfl) (by kernel_rfl) rfl rfl
                go_simp; first | done | rfl | (simp; done)
              refine Flow.pass_val (.bool false) (Flow.met_none rfl) (fun a W hH => ?_) ?_
              · have e0 := Flow.see_new 94 1 hH.sees (by kernel_rfl) (by kernel_rfl) rfl rfl
                have e1 := Flow.see_new 99 6 hH.sees (by kernel_rfl) (by kernel_rfl) rfl rfl
                go_simp; first | done | rfl | (simp; done)
              refine Flow.pass_copy 100 7 (Flow.met_none rfl) (.inl rfl) (by kernel_rfl) (by kernel_rfl) rfl rfl (fun _ _ => Flow.kept_eqs _ _) ?_
              refine Flow.pass_skip (fun a W hH => Flow.not_wanted 8 true 101 hH rfl rfl (by kernel_rfl) (by kernel_rfl) rfl rfl) ?_
              refine Flow.pass_skip (fun a W hH => Flow.not_wanted 8 true 101 hH rfl rfl (by kernel_rfl) (by kernel_rfl) rfl rfl) ?_
              refine Flow.pass_skip (fun a W hH => Flow.not_wanted 8 true 101 hH rfl rfl (by kernel_rfl) (by kernel_rfl) rfl rfl) ?_
              refine Flow.pass_skip (fun a W hH => Flow.not_wanted 8 true 101 hH rfl rfl (by kernel_rfl) (by kernel_rfl) rfl rfl) ?_
              refine Flow.pass_val (.bool false) (Flow.met_none rfl) (fun a W hH => ?_) ?_
              · have e0 := Flow.see_new 101 8 hH.sees (by kernel_rfl) (by kernel_rfl) rfl rfl
                have e1 := Flow.see_new 105 12 hH.sees (by kernel_rfl) (by kernel_rfl) rfl rfl
                go_simp; first | done | rfl | (simp; done)
              refine Flow.pass_copy 106 13 (Flow.met_none rfl) (.inl rfl) (by kernel_rfl) (by kernel_rfl) rfl rfl (fun _ _ => Flow.kept_eqs _ _) ?_
              refine Flow.pass_skip (fun a W hH => Flow.not_wanted 14 true 107 hH rfl rfl (by kernel_rfl) (by kernel_rfl) rfl rfl) ?_
              refine Flow.pass_skip (fun a W hH => Flow.not_wanted 14 true 107 hH rfl rfl (by kernel_rfl) (by kernel_rfl) rfl rfl) ?_
              refine Flow.pass_skip (fun a W hH => Flow.not_wanted 14 true 107 hH rfl rfl (by kernel_rfl) (by kernel_rfl) rfl rfl) ?_
              refine Flow.pass_skip (fun a W hH => Flow.not_wanted 14 true 107 hH rfl rfl (by kernel_rfl) (by kernel_rfl) rfl rfl) ?_
              refine Flow.pass_skip (fun a W hH => Flow.not_wanted 14 true 107 hH rfl rfl (by kernel_rfl) (by kernel_rfl) rfl rfl) ?_
              refine Flow.pass_skip (fun a W hH => Flow.not_wanted 14 true 107 hH rfl rfl (by kernel_rfl) (by kernel_rfl) rfl rfl) ?_
              refine Flow.pass_skip (fun a W hH => Flow.not_wanted 14 true 107 hH rfl rfl (by kernel_rfl) (by kernel_rfl) rfl rfl) ?_
              refine Flow.pass_skip (fun a W hH => Flow.not_wanted 14 true 107 hH rfl rfl (by kernel_rfl) (by kernel_rfl) rfl rfl) ?_
              refine Flow.pass_skip (fun a W hH => Flow.not_wanted 14 true 107 hH rfl rfl (by kernel_rfl) (by kernel_rfl) rfl rfl) ?_
              refine Flow.pass_val (.bool false) (Flow.met_none rfl) (fun a W hH => ?_) ?_
              · have e0 := Flow.see_new 107 14 hH.sees (by kernel_rfl) (by kernel_rfl) rfl rfl
                have e1 := Flow.see_new 116 23 hH.sees (by kernel_rfl) (by kernel_rfl) rfl rfl
                go_simp; first | done | rfl | (simp; done)
              refine Flow.pass_copy 117 24 (Flow.met_none rfl) (.inr rfl) (by kernel_rfl) (by kernel_rfl) rfl rfl (fun _ _ => Flow.kept_eqs _ _) ?_
              refine Flow.pass_end [none, none, none, none, none, none, none, none, none, none, none, none, none, none, none, none, some 16, none, none, none, none, none, none, none, none, none, none, none, none, none, none, none, none, none, none, none, none, none, none, none, none, none, none, none, none, none, none, none, none, none, none, none, none, none, none, none, none, none, none, none, none, none, none, none, none, none, none, none, none, none, none, none, none, none, none, none, none, none, none, none, none, none, none, none, none, none, none, none, none, none, none, none, none, some 93, some 94, some 95, some 96, some 97, some 98, some 99, some 100, some 101, some 102, some 103, some 104, some 105, some 106, some 107, some 108, some 109, some 110, some 111, some 112, some 113, some 114, some 115, some 116, some 117, none, none, none, none, none, none, none, none, none, none, none, none, none, none, none, none, none] (by kernel_rfl) ?_
              intro f gg w9 hB hfa hT hfg
              have h16 : f 16 = _ := (hfg 16 25 (by kernel_rfl)).trans (hT 25 _ (by kernel_rfl) rfl)
              simp only [Reg.sel, h16]
              have BY := (Below.refl W10.heap.size W10).drew.trans hB
              have hvB := hvA.below BY hvA.lt
              have cE := vd_e hvB
              have BB := BA.trans (BY.mono BA.size)
              have hEn := HEF.out
              clear hT hfg hfa hB hAA hbA hvA hhA BA BY h16
              go_wp2
              go_ret
              exact ⟨rfl, BB⟩
        · have hEf : (E == 0) = false := by
            rw [← HE.out]
            exact vErr_ne 1 (by omega) (by rw [q1.out]; exact h2)
          have HEF := Lib.hid hEf
          have hne : (VE == 0) = false := by simpa using h2
          clear hEf h2
          refine Flow.wp_region_flow (W8.heap.size) [] [] (by kernel_rfl) (by kernel_rfl) (Nat.le_refl _) (fun _ h => by cases h) Flow.facts_nil ?_
          refine Flow.pass_old (X := .int .i64 0) 9 (Flow.met_none rfl) (.inl rfl) (by kernel_rfl) (by kernel_rfl) rfl ?_
          refine Flow.pass_val (.bool true) (Flow.met_none rfl) (fun a W hH => ?_) ?_
          · have e0 := Flow.see_new 72 0 hH.sees (by kernel_rfl) (by kernel_rfl) rfl rfl
            go_simp; first | done | rfl | (simp; done)
          refine Flow.pass_copy 73 1 (Flow.met_none rfl) (.inl rfl) (by kernel_rfl) (by kernel_rfl) rfl rfl (fun _ _ => Flow.kept_eqs _ _) ?_
          refine Flow.pass_old (X := .int .i64 0) 15 (Flow.met_some 2 true 74 rfl rfl (by kernel_rfl) (by kernel_rfl) rfl rfl) (.inl rfl) (by kernel_rfl) (by kernel_rfl) rfl ?_
          refine Flow.pass_val (.bool true) (Flow.met_some 2 true 74 rfl rfl (by kernel_rfl) (by kernel_rfl) rfl rfl) (fun a W hH => ?_) ?_
          · have e0 := Flow.see_new 75 3 hH.sees (by kernel_rfl) (by kernel_rfl) rfl rfl
            go_simp; first | done | rfl | (simp; done)
          refine Flow.pass_val (.bool true) (Flow.met_none rfl) (fun a W hH => ?_) ?_
          · have e0 := Flow.see_new 74 2 hH.sees (by kernel_rfl) (by kernel_rfl) rfl rfl
            have e1 := Flow.see_new 76 4 hH.sees (by kernel_rfl) (by kernel_rfl) rfl rfl
            go_simp; first | done | rfl | (simp; done)
          refine Flow.pass_copy 77 5 (Flow.met_none rfl) (.inl rfl) (by kernel_rfl) (by kernel_rfl) rfl rfl (fun _ _ => Flow.kept_eqs _ _) ?_
          refine Flow.pass_val (.pointer (some ⟨w.heap.size, 7, none⟩)) (Flow.met_some 6 true 78 rfl rfl (by kernel_rfl) (by kernel_rfl) rfl rfl) (fun a W hH => ?_) ?_
          · have e0 := Flow.see_old 4 hH.sees (by kernel_rfl) (by kernel_rfl) rfl
            go_simp; first | done | rfl | (simp; done)
          refine Flow.pass_val (.slice (some ⟨w.heap.size, 7, none⟩) 68 68) (Flow.met_some 6 true 78 rfl rfl (by kernel_rfl) (by kernel_rfl) rfl rfl) (fun a W hH => ?_) ?_
          · have e0 := Flow.see_new 79 7 hH.sees (by kernel_rfl) (by kernel_rfl) rfl rfl
            go_simp; first | done | rfl | (simp; done)
          refine Flow.pass_old (X := .slice A1 SA.length k1) 12 (Flow.met_some 6 true 78 rfl rfl (by kernel_rfl) (by kernel_rfl) rfl rfl) (.inl rfl) (by kernel_rfl) (by kernel_rfl) rfl ?_
          refine Flow.pass_old (X := .slice A2 SB.length k2) 13 (Flow.met_some 6 true 78 rfl rfl (by kernel_rfl) (by kernel_rfl) rfl rfl) (.inl rfl) (by kernel_rfl) (by kernel_rfl) rfl ?_
          refine Flow.pass_step (Reg.eqs (.int .i64 VE)) (fun _ _ => Flow.kept_eqs _ _) (Flow.met_some 6 true 78 rfl rfl (by kernel_rfl) (by kernel_rfl) rfl rfl) (fun a W hH => ?_) ?_
          · have e0 := Flow.see_new 80 8 hH.sees (by kernel_rfl) (by kernel_rfl) rfl rfl
            have e1 := Flow.see_new 81 9 hH.sees (by kernel_rfl) (by kernel_rfl) rfl rfl
            have e2 := Flow.see_new 82 10 hH.sees (by kernel_rfl) (by kernel_rfl) rfl rfl
            refine Reg.wp_call rfl Tryz.func15 rfl (by kernel_rfl) (by simp [Act.eval, e0, e1, e2]) (rVerify_all (some ⟨w.heap.size, 7, none⟩) 68 68 g.key (by omega) (by omega) A1 SA.length k1 SA p1 A2 SB.length k2 SB p2 m2 W (gu_key (hA8.below ((Below.refl W8.heap.size W8).drew.trans hH.below) hA8.lt) HK.out) ((r18.below ((Below.refl W8.heap.size W8).drew.trans hH.below)).more hH.below.size) ((r28.below ((Below.refl W8.heap.size W8).drew.trans hH.below)).more hH.below.size)) ?_
            rintro e w' ⟨rfl, hB⟩
            rw [HVE.out]
            exact ⟨_, rfl, _, rfl, hB, rfl⟩
          refine Flow.pass_val (.bool false) (Flow.met_some 6 true 78 rfl rfl (by kernel_rfl) (by kernel_rfl) rfl rfl) (fun a W hH => ?_) ?_
          · have e0 := Flow.see_new 83 11 hH.sees (by kernel_rfl) (by kernel_rfl) rfl rfl
            go_simp; first | done | rfl | (simp; done)
          refine Flow.pass_val (.bool false) (Flow.met_none rfl) (fun a W hH => ?_) ?_
          · have e0 := Flow.see_new 78 6 hH.sees (by kernel_rfl) (by kernel_rfl) rfl rfl
            have e1 := Flow.see_new 84 12 hH.sees (by kernel_rfl) (by kernel_rfl) rfl rfl
            go_simp; first | done | rfl | (simp; done)
          refine Flow.pass_copy 85 13 (Flow.met_none rfl) (.inl rfl) (by kernel_rfl) (by kernel_rfl) rfl rfl (fun _ _ => Flow.kept_eqs _ _) ?_
          refine Flow.pass_skip (fun a W hH => Flow.not_wanted 14 true 86 hH rfl rfl (by kernel_rfl) (by kernel_rfl) rfl rfl) ?_
          refine Flow.pass_skip (fun a W hH => Flow.not_wanted 14 true 86 hH rfl rfl (by kernel_rfl) (by kernel_rfl) rfl rfl) ?_
          refine Flow.pass_skip (fun a W hH => Flow.not_wanted 14 true 86 hH rfl rfl (by kernel_rfl) (by kernel_rfl) rfl rfl) ?_
          refine Flow.pass_skip (fun a W hH => Flow.not_wanted 14 true 86 hH rfl rfl (by kernel_rfl) (by kernel_rfl) rfl rfl) ?_
          refine Flow.pass_skip (fun a W hH => Flow.not_wanted 14 true 86 hH rfl rfl (by kernel_rfl) (by kernel_rfl) rfl rfl) ?_
          refine Flow.pass_val (.bool false) (Flow.met_none rfl) (fun a W hH => ?_) ?_
          · have e0 := Flow.see_new 86 14 hH.sees (by kernel_rfl) (by kernel_rfl) rfl rfl
            have e1 := Flow.see_new 91 19 hH.sees (by kernel_rfl) (by kernel_rfl) rfl rfl
            go_simp; first | done | rfl | (simp; done)
          refine Flow.pass_copy 92 20 (Flow.met_none rfl) (.inr rfl) (by kernel_rfl) (by kernel_rfl) rfl rfl (fun _ _ => Flow.kept_eqs _ _) ?_
          refine Flow.pass_end [none, none, none, none, none, none, none, none, none, none, none, none, none, none, none, none, some 16, none, none, none, none, none, none, none, none, none, none, none, none, none, none, none, none, none, none, none, none, none, none, none, none, none, none, none, none, none, none, none, none, none, none, none, none, none, none, none, none, none, none, none, none, none, none, none, none, none, none, none, none, none, none, none, some 72, some 73, some 74, some 75, some 76, some 77, some 78, some 79, some 80, some 81, some 82, some 83, some 84, some 85, some 86, some 87, some 88, some 89, some 90, some 91, some 92, none, none, none, none, none, none, none, none, none, none, none, none, none, none, none, none, none, none, none, none, none, none, none, none, none, none, none, none, none, none, none, none, none, none, none, none, none, none, none, none, none, none] (by kernel_rfl) ?_
          intro f gg w9 hB hfa hT hfg
          have h16 : f 16 = _ := (hfg 16 21 (by kernel_rfl)).trans (hT 21 _ (by kernel_rfl) rfl)
          have BX := (Below.refl W8.heap.size W8).drew.trans hB
          simp only [Reg.sel, h16]
          have hAA := hA8.below BX hA8.lt
          have hbA := hb8.below BX hb8.lt
          have hvA := hv8.below BX hv8.lt
          have hhA := hh8.below BX hh8.lt
          have BA := B8.trans (BX.mono B8.size)
          obtain ⟨W10, hW10⟩ : ∃ W, W = w9 := ⟨_, rfl⟩
          subst hW10
          clear hT hfg hfa hB hA8 hb8 hv8 hh8 B8 BX r18 r28 r38 h16
          go_wp2_with fail
          refine Flow.wp_region_flow (W10.heap.size) [] [] (by kernel_rfl) (by kernel_rfl) (Nat.le_refl _) (fun _ h => by cases h) Flow.facts_nil ?_
          refine Flow.pass_old (X := .bool false) 16 (Flow.met_none rfl) (.inl rfl) (by kernel_rfl) (by kernel_rfl) rfl ?_
          refine Flow.pass_copy 93 0 (Flow.met_none rfl) (.inl rfl) (by kernel_rfl) (by kernel_rfl) rfl rfl (fun _ _ => Flow.kept_eqs _ _) ?_
          refine Flow.pass_skip (fun a W hH => Flow.not_wanted 1 true 94 hH rfl rfl (by kernel_rfl) (by kernel_rfl) rfl rfl) ?_
          refine Flow.pass_skip (fun a W hH => Flow.not_wanted 1 true 94 hH rfl rfl (by kernel_rfl) (by kernel_rfl) rfl rfl) ?_
          refine Flow.pass_skip (fun a W hH => Flow.not_wanted 1 true 94 hH rfl rfl (by kernel_rfl) (by kernel_rfl) rfl rfl) ?_
          refine Flow.pass_skip (fun a W hH => Flow.not_wanted 1 true 94 hH rfl rfl (by kernel_rfl) (by kernel_rfl) rfl rfl) ?_
          refine Flow.pass_skip (fun a W hH => Flow.not_wanted 1 true 94 hH rfl rfl (by kernel_rfl) (by kernel_rfl) rfl rfl) ?_
          refine Flow.pass_val (.bool false) (Flow.met_none rfl) (fun a W hH => ?_) ?_
          · have e0 := Flow.see_new 94 1 hH.sees (by kernel_rfl) (by kernel_rfl) rfl rfl
            have e1 := Flow.see_new 99 6 hH.sees (by kernel_rfl) (by kernel_rfl) rfl rfl
            go_simp; first | done | rfl | (simp; done)
          refine Flow.pass_copy 100 7 (Flow.met_none rfl) (.inl rfl) (by kernel_rfl) (by kernel_rfl) rfl rfl (fun _ _ => Flow.kept_eqs _ _) ?_
          refine Flow.pass_skip (fun a W hH => Flow.not_wanted 8 true 101 hH rfl rfl (by kernel_rfl) (by kernel_rfl) rfl rfl) ?_
          refine Flow.pass_skip (fun a W hH => Flow.not_wanted 8 true 101 hH rfl rfl (by kernel_rfl) (by kernel_rfl) rfl rfl) ?_
          refine Flow.pass_skip (fun a W hH => Flow.not_wanted 8 true 101 hH rfl rfl (by kernel_rfl) (by kernel_rfl) rfl rfl) ?_
          refine Flow.pass_skip (fun a W hH => Flow.not_wanted 8 true 101 hH rfl rfl (by kernel_rfl) (by kernel_rfl) rfl rfl) ?_
          refine Flow.pass_val (.bool false) (Flow.met_none rfl) (fun a W hH => ?_) ?_
          · have e0 := Flow.see_new 101 8 hH.sees (by kernel_rfl) (by kernel_rfl) rfl rfl
            have e1 := Flow.see_new 105 12 hH.sees (by kernel_rfl) (by kernel_rfl) rfl rfl
            go_simp; first | done | rfl | (simp; done)
          refine Flow.pass_copy 106 13 (Flow.met_none rfl) (.inl rfl) (by kernel_rfl) (by kernel_rfl) rfl rfl (fun _ _ => Flow.kept_eqs _ _) ?_
          refine Flow.pass_skip (fun a W hH => Flow.not_wanted 14 true 107 hH rfl rfl (by kernel_rfl) (by kernel_rfl) rfl rfl) ?_
          refine Flow.pass_skip (fun a W hH => Flow.not_wanted 14 true 107 hH rfl rfl (by kernel_rfl) (by kernel_rfl) rfl rfl) ?_
          refine Flow.pass_skip (fun a W hH => Flow.not_wanted 14 true 107 hH rfl rfl (by kernel_rfl) (by kernel_rfl) rfl rfl) ?_
          refine Flow.pass_skip (fun a W hH => Flow.not_wanted 14 true 107 hH rfl rfl (by kernel_rfl) (by kernel_rfl) rfl rfl) ?_
          refine Flow.pass_skip (fun a W hH => Flow.not_wanted 14 true 107 hH rfl rfl (by kernel_rfl) (by kernel_rfl) rfl rfl) ?_
          refine Flow.pass_skip (fun a W hH => Flow.not_wanted 14 true 107 hH rfl rfl (by kernel_rfl) (by kernel_rfl) rfl rfl) ?_
          refine Flow.pass_skip (fun a W hH => Flow.not_wanted 14 true 107 hH rfl rfl (by kernel_rfl) (by kernel_rfl) rfl rfl) ?_
          refine Flow.pass_skip (fun a W hH => Flow.not_wanted 14 true 107 hH rfl rfl (by kernel_rfl) (by kernel_rfl) rfl rfl) ?_
          refine Flow.pass_skip (fun a W hH => Flow.not_wanted 14 true 107 hH rfl rfl (by kernel_rfl) (by kernel_rfl) rfl rfl) ?_
          refine Flow.pass_val (.bool false) (Flow.met_none rfl) (fun a W hH => ?_) ?_
          · have e0 := Flow.see_new 107 14 hH.sees (by kernel_rfl) (by kernel_rfl) rfl rfl
            have e1 := Flow.see_new 116 23 hH.sees (by kernel_rfl) (by kernel_rfl) rfl rfl
            go_simp; first | done | rfl | (simp; done)
          refine Flow.pass_copy 117 24 (Flow.met_none rfl) (.inr rfl) (by kernel_rfl) (by kernel_rfl) rfl rfl (fun _ _ => Flow.kept_eqs _ _) ?_
          refine Flow.pass_end [none, none, none, none, none, none, none, none, none, none, none, none, none, none, none, none, some 16, none, none, none, none, none, none, none, none, none, none, none, none, none, none, none, none, none, none, none, none, none, none, none, none, none, none, none, none, none, none, none, none, none, none, none, none, none, none, none, none, none, none, none, none, none, none, none, none, none, none, none, none, none, none, none, none, none, none, none, none, none, none, none, none, none, none, none, none, none, none, none, none, none, none, none, none, some 93, some 94, some 95, some 96, some 97, some 98, some 99, some 100, some 101, some 102, some 103, some 104, some 105, some 106, some 107, some 108, some 109, some 110, some 111, some 112, some 113, some 114, some 115, some 116, some 117, none, none, none, none, none, none, none, none, none, none, none, none, none, none, none, none, none] (by kernel_rfl) ?_
          intro f gg w9 hB hfa hT hfg
          have h16 : f 16 = _ := (hfg 16 25 (by kernel_rfl)).trans (hT 25 _ (by kernel_rfl) rfl)
          simp only [Reg.sel, h16]
          have BY := (Below.refl W10.heap.size W10).drew.trans hB
          have hvB := hvA.below BY hvA.lt
          have cE := vd_e hvB
          have BB := BA.trans (BY.mono BA.size)
          have hEn := HEF.out
          clear hT hfg hfa hB hAA hbA hvA hhA BA BY h16
          go_wp2
          go_ret
          exact ⟨rfl, BB⟩
      · have hEf : (E == 0) = false := by
          rw [← HE.out]
          exact vErr_ne 0 (by omega) (by rw [q0.out]; simpa using h1)
        have HEF := Lib.hid hEf
        have hne : (SE == 0) = false := by simpa using h1
        clear hEf h1
        refine Flow.wp_region_flow (W8.heap.size) [] [] (by kernel_rfl) (by kernel_rfl) (Nat.le_refl _) (fun _ h => by cases h) Flow.facts_nil ?_
        refine Flow.pass_old (X := .int .i64 0) 9 (Flow.met_none rfl) (.inl rfl) (by kernel_rfl) (by kernel_rfl) rfl ?_
        refine Flow.pass_val (.bool true) (Flow.met_none rfl) (fun a W hH => ?_) ?_
        · have e0 := Flow.see_new 72 0 hH.sees (by kernel_rfl) (by kernel_rfl) rfl rfl
          go_simp; first | done | rfl | (simp; done)
        refine Flow.pass_copy 73 1 (Flow.met_none rfl) (.inl rfl) (by kernel_rfl) (by kernel_rfl) rfl rfl (fun _ _ => Flow.kept_eqs _ _) ?_
        refine Flow.pass_old (X := .int .i64 SE) 15 (Flow.met_some 2 true 74 rfl rfl (by kernel_rfl) (by kernel_rfl) rfl rfl) (.inl rfl) (by kernel_rfl) (by kernel_rfl) rfl ?_
        refine Flow.pass_val (.bool false) (Flow.met_some 2 true 74 rfl rfl (by kernel_rfl) (by kernel_rfl) rfl rfl) (fun a W hH => ?_) ?_
        · have e0 := Flow.see_new 75 3 hH.sees (by kernel_rfl) (by kernel_rfl) rfl rfl
          go_simp; first | done | rfl | (simp; done)
        refine Flow.pass_val (.bool false) (Flow.met_none rfl) (fun a W hH => ?_) ?_
        · have e0 := Flow.see_new 74 2 hH.sees (by kernel_rfl) (by kernel_rfl) rfl rfl
          have e1 := Flow.see_new 76 4 hH.sees (by kernel_rfl) (by kernel_rfl) rfl rfl
          go_simp; first | done | rfl | (simp; done)
        refine Flow.pass_copy 77 5 (Flow.met_none rfl) (.inl rfl) (by kernel_rfl) (by kernel_rfl) rfl rfl (fun _ _ => Flow.kept_eqs _ _) ?_
        refine Flow.pass_skip (fun a W hH => Flow.not_wanted 6 true 78 hH rfl rfl (by kernel_rfl) (by kernel_rfl) rfl rfl) ?_
        refine Flow.pass_skip (fun a W hH => Flow.not_wanted 6 true 78 hH rfl rfl (by kernel_rfl) (by kernel_rfl) rfl rfl) ?_
        refine Flow.pass_skip (fun a W hH => Flow.not_wanted 6 true 78 hH rfl rfl (by kernel_rfl) (by kernel_rfl) rfl rfl) ?_
        refine Flow.pass_skip (fun a W hH => Flow.not_wanted 6 true 78 hH rfl rfl (by kernel_rfl) (by kernel_rfl) rfl rfl) ?_
        refine Flow.pass_skip (fun a W hH => Flow.not_wanted 6 true 78 hH rfl rfl (by kernel_rfl) (by kernel_rfl) rfl rfl) ?_
        refine Flow.pass_skip (fun a W hH => Flow.not_wanted 6 true 78 hH rfl rfl (by kernel_rfl) (by kernel_rfl) rfl rfl) ?_
        refine Flow.pass_val (.bool false) (Flow.met_none rfl) (fun a W hH => ?_) ?_
        · have e0 := Flow.see_new 78 6 hH.sees (by kernel_rfl) (by kernel_rfl) rfl rfl
          have e1 := Flow.see_new 84 12 hH.sees (by kernel_rfl) (by kernel_rfl) rfl rfl
          go_simp; first | done | rfl | (simp; done)
        refine Flow.pass_copy 85 13 (Flow.met_none rfl) (.inl rfl) (by kernel_rfl) (by kernel_rfl) rfl rfl (fun _ _ => Flow.kept_eqs _ _) ?_
        refine Flow.pass_skip (fun a W hH => Flow.not_wanted 14 true 86 hH rfl rfl (by kernel_rfl) (by kernel_rfl) rfl rfl) ?_
        refine Flow.pass_skip (fun a W hH => Flow.not_wanted 14 true 86 hH rfl rfl (by kernel_rfl) (by kernel_rfl) rfl rfl) ?_
        refine Flow.pass_skip (fun a W hH => Flow.not_wanted 14 true 86 hH rfl rfl (by kernel_rfl) (by kernel_rfl) rfl rfl) ?_
        refine Flow.pass_skip (fun a W hH => Flow.not_wanted 14 true 86 hH rfl rfl (by kernel_rfl) (by kernel_rfl) rfl rfl) ?_
        refine Flow.pass_skip (fun a W hH => Flow.not_wanted 14 true 86 hH rfl rfl (by kernel_rfl) (by kernel_rfl) rfl rfl) ?_
        refine Flow.pass_val (.bool false) (Flow.met_none rfl) (fun a W hH => ?_) ?_
        · have e0 := Flow.see_new 86 14 hH.sees (by kernel_rfl) (by kernel_rfl) rfl rfl
          have e1 := Flow.see_new 91 19 hH.sees (by kernel_rfl) (by kernel_rfl) rfl rfl
          go_simp; first | done | rfl | (simp; done)
        refine Flow.pass_copy 92 20 (Flow.met_none rfl) (.inr rfl) (by kernel_rfl) (by kernel_rfl) rfl rfl (fun _ _ => Flow.kept_eqs _ _) ?_
        refine Flow.pass_end [none, none, none, none, none, none, none, none, none, none, none, none, none, none, none, none, some 16, none, none, none, none, none, none, none, none, none, none, none, none, none, none, none, none, none, none, none, none, none, none, none, none, none, none, none, none, none, none, none, none, none, none, none, none, none, none, none, none, none, none, none, none, none, none, none, none, none, none, none, none, none, none, none, some 72, some 73, some 74, some 75, some 76, some 77, some 78, some 79, some 80, some 81, some 82, some 83, some 84, some 85, some 86, some 87, some 88, some 89, some 90, some 91, some 92, none, none, none, none, none, none, none, none, none, none, none, none, none, none, none, none, none, none, none, none, none, none, none, none, none, none, none, none, none, none, none, none, none, none, none, none, none, none, none, none, none, none] (by kernel_rfl) ?_
        intro f gg w9 hB hfa hT hfg
        have h16 : f 16 = _ := (hfg 16 21 (by kernel_rfl)).trans (hT 21 _ (by kernel_rfl) rfl)
        have BX := (Below.refl W8.heap.size W8).drew.trans hB
        simp only [Reg.sel, h16]
        have hAA := hA8.below BX hA8.lt
        have hbA := hb8.below BX hb8.lt
        have hvA := hv8.below BX hv8.lt
        have hhA := hh8.below BX hh8.lt
        have BA := B8.trans (BX.mono B8.size)
        obtain ⟨W10, hW10⟩ : ∃ W, W = w9 := ⟨_, rfl⟩
        subst hW10
        clear hT hfg hfa hB hA8 hb8 hv8 hh8 B8 BX r18 r28 r38 h16
        go_wp2_with fail
        refine Flow.wp_region_flow (W10.heap.size) [] [] (by kernel_rfl) (by kernel_rfl) (Nat.le_refl _) (fun _ h => by cases h) Flow.facts_nil ?_
        refine Flow.pass_old (X := .bool false) 16 (Flow.met_none rfl) (.inl rfl) (by kernel_rfl) (by kernel_rfl) rfl ?_
        refine Flow.pass_copy 93 0 (Flow.met_none rfl) (.inl rfl) (by kernel_rfl) (by kernel_rfl) rfl rfl (fun _ _ => Flow.kept_eqs _ _) ?_
        refine Flow.pass_skip (fun a W hH => Flow.not_wanted 1 true 94 hH rfl rfl (by kernel_rfl) (by kernel_rfl) rfl rfl) ?_
        refine Flow.pass_skip (fun a W hH => Flow.not_wanted 1 true 94 hH rfl rfl (by kernel_rfl) (by kernel_rfl) rfl rfl) ?_
        refine Flow.pass_skip (fun a W hH => Flow.not_wanted 1 true 94 hH rfl rfl (by kernel_rfl) (by kernel_rfl) rfl rfl) ?_
        refine Flow.pass_skip (fun a W hH => Flow.not_wanted 1 true 94 hH rfl rfl (by kernel_rfl) (by kernel_rfl) rfl rfl) ?_
        refine Flow.pass_skip (fun a W hH => Flow.not_wanted 1 true 94 hH rfl rfl (by kernel_rfl) (by kernel_rfl) rfl rfl) ?_
        refine Flow.pass_val (.bool false) (Flow.met_none rfl) (fun a W hH => ?_) ?_
        · have e0 := Flow.see_new 94 1 hH.sees (by kernel_rfl) (by kernel_rfl) rfl rfl
          have e1 := Flow.see_new 99 6 hH.sees (by kernel_rfl) (by kernel_rfl) rfl rfl
          go_simp; first | done | rfl | (simp; done)
        refine Flow.pass_copy 100 7 (Flow.met_none rfl) (.inl rfl) (by kernel_rfl) (by kernel_rfl) rfl rfl (fun _ _ => Flow.kept_eqs _ _) ?_
        refine Flow.pass_skip (fun a W hH => Flow.not_wanted 8 true 101 hH rfl rfl (by kernel_rfl) (by kernel_rfl) rfl rfl) ?_
        refine Flow.pass_skip (fun a W hH => Flow.not_wanted 8 true 101 hH rfl rfl (by kernel_rfl) (by kernel_rfl) rfl rfl) ?_
        refine Flow.pass_skip (fun a W hH => Flow.not_wanted 8 true 101 hH rfl rfl (by kernel_rfl) (by kernel_rfl) rfl rfl) ?_
        refine Flow.pass_skip (fun a W hH => Flow.not_wanted 8 true 101 hH rfl rfl (by kernel_rfl) (by kernel_rfl) rfl rfl) ?_
        refine Flow.pass_val (.bool false) (Flow.met_none rfl) (fun a W hH => ?_) ?_
        · have e0 := Flow.see_new 101 8 hH.sees (by kernel_rfl) (by kernel_rfl) rfl rfl
          have e1 := Flow.see_new 105 12 hH.sees (by kernel_rfl) (by kernel_rfl) rfl rfl
          go_simp; first | done | rfl | (simp; done)
        refine Flow.pass_copy 106 13 (Flow.met_none rfl) (.inl rfl) (by kernel_rfl) (by kernel_rfl) rfl rfl (fun _ _ => Flow.kept_eqs _ _) ?_
        refine Flow.pass_skip (fun a W hH => Flow.not_wanted 14 true 107 hH rfl rfl (by kernel_rfl) (by kernel_rfl) rfl rfl) ?_
        refine Flow.pass_skip (fun a W hH => Flow.not_wanted 14 true 107 hH rfl rfl (by kernel_rfl) (by kernel_rfl) rfl rfl) ?_
        refine Flow.pass_skip (fun a W hH => Flow.not_wanted 14 true 107 hH rfl rfl (by kernel_rfl) (by kernel_rfl) rfl rfl) ?_
        refine Flow.pass_skip (fun a W hH => Flow.not_wanted 14 true 107 hH rfl rfl (by kernel_rfl) (by kernel_rfl) rfl rfl) ?_
        refine Flow.pass_skip (fun a W hH => Flow.not_wanted 14 true 107 hH rfl rfl (by kernel_rfl) (by kernel_rfl) rfl rfl) ?_
        refine Flow.pass_skip (fun a W hH => Flow.not_wanted 14 true 107 hH rfl rfl (by kernel_rfl) (by kernel_rfl) rfl rfl) ?_
        refine Flow.pass_skip (fun a W hH => Flow.not_wanted 14 true 107 hH rfl rfl (by kernel_rfl) (by kernel_rfl) rfl rfl) ?_
        refine Flow.pass_skip (fun a W hH => Flow.not_wanted 14 true 107 hH rfl rfl (by kernel_rfl) (by kernel_rfl) rfl rfl) ?_
        refine Flow.pass_skip (fun a W hH => Flow.not_wanted 14 true 107 hH rfl rfl (by kernel_rfl) (by kernel_rfl) rfl rfl) ?_
        refine Flow.pass_val (.bool false) (Flow.met_none rfl) (fun a W hH => ?_) ?_
        · have e0 := Flow.see_new 107 14 hH.sees (by kernel_rfl) (by kernel_rfl) rfl rfl
          have e1 := Flow.see_new 116 23 hH.sees (by kernel_rfl) (by kernel_rfl) rfl rfl
          go_simp; first | done | rfl | (simp; done)
        refine Flow.pass_copy 117 24 (Flow.met_none rfl) (.inr rfl) (by kernel_rfl) (by kernel_rfl) rfl rfl (fun _ _ => Flow.kept_eqs _ _) ?_
        refine Flow.pass_end [none, none, none, none, none, none, none, none, none, none, none, none, none, none, none, none, some 16, none, none, none, none, none, none, none, none, none, none, none, none, none, none, none, none, none, none, none, none, none, none, none, none, none, none, none, none, none, none, none, none, none, none, none, none, none, none, none, none, none, none, none, none, none, none, none, none, none, none, none, none, none, none, none, none, none, none, none, none, none, none, none, none, none, none, none, none, none, none, none, none, none, none, none, none, some 93, some 94, some 95, some 96, some 97, some 98, some 99, some 100, some 101, some 102, some 103, some 104, some 105, some 106, some 107, some 108, some 109, some 110, some 111, some 112, some 113, some 114, some 115, some 116, some 117, none, none, none, none, none, none, none, none, none, none, none, none, none, none, none, none, none] (by kernel_rfl) ?_
        intro f gg w9 hB hfa hT hfg
        have h16 : f 16 = _ := (hfg 16 25 (by kernel_rfl)).trans (hT 25 _ (by kernel_rfl) rfl)
        simp only [Reg.sel, h16]
        have BY := (Below.refl W10.heap.size W10).drew.trans hB
        have hvB := hvA.below BY hvA.lt
        have cE := vd_e hvB
        have BB := BA.trans (BY.mono BA.size)
        have hEn := HEF.out
        clear hT hfg hfa hB hAA hbA hvA hhA BA BY h16
        go_wp2
        go_ret
        exact ⟨rfl, BB⟩
    · have hEf : (E == 0) = false := by
        rw [← HE.out]
        exact vErr_ne 0 (by omega) (by rw [q0.out, if_pos h0]; exact h0)
      have HEF := Lib.hid hEf
      have hne : (E0 == 0) = false := by simpa using h0
      clear hEf h0
      refine Flow.wp_region_flow (W8.heap.size) [] [] (by kernel_rfl) (by kernel_rfl) (Nat.le_refl _) (fun _ h => by cases h) Flow.facts_nil ?_
      refine Flow.pass_old (X := .int .i64 E0) 9 (Flow.met_none rfl) (.inl rfl) (by kernel_rfl) (by kernel_rfl) rfl ?_
      refine Flow.pass_val (.bool false) (Flow.met_none rfl) (fun a W hH => ?_) ?_
      · have e0 := Flow.see_new 72 0 hH.sees (by kernel_rfl) (by kernel_rfl) rfl rfl
        go_simp; first | done | rfl | (simp; done)
      refine Flow.pass_copy 73 1 (Flow.met_none rfl) (.inl rfl) (by kernel_rfl) (by kernel_rfl) rfl rfl (fun _ _ => Flow.kept_eqs _ _) ?_
      refine Flow.pass_skip (fun a W hH => Flow.not_wanted 2 true 74 hH rfl rfl (by kernel_rfl) (by kernel_rfl) rfl rfl) ?_
      refine Flow.pass_skip (fun a W hH => Flow.not_wanted 2 true 74 hH rfl rfl (by kernel_rfl) (by kernel_rfl) rfl rfl) ?_
      refine Flow.pass_val (.bool false) (Flow.met_none rfl) (fun a W hH => ?_) ?_
      · have e0 := Flow.see_new 74 2 hH.sees (by kernel_rfl) (by kernel_rfl) rfl rfl
        have e1 := Flow.see_new 76 4 hH.sees (by kernel_rfl) (by kernel_rfl) rfl rfl
        go_simp; first | done | rfl | (simp; done)
      refine Flow.pass_copy 77 5 (Flow.met_none rfl) (.inl rfl) (by kernel_rfl) (by kernel_rfl) rfl rfl (fun _ _ => Flow.kept_eqs _ _) ?_
      refine Flow.pass_skip (fun a W hH => Flow.not_wanted 6 true 78 hH rfl rfl (by kernel_rfl) (by kernel_rfl) rfl rfl) ?_
      refine Flow.pass_skip (fun a W hH => Flow.not_wanted 6 true 78 hH rfl rfl (by kernel_rfl) (by kernel_rfl) rfl rfl) ?_
      refine Flow.pass_skip (fun a W hH => Flow.not_wanted 6 true 78 hH rfl rfl (by kernel_rfl) (by kernel_rfl) rfl rfl) ?_
      refine Flow.pass_skip (fun a W hH => Flow.not_wanted 6 true 78 hH rfl rfl (by kernel_rfl) (by kernel_rfl) rfl rfl) ?_
      refine Flow.pass_skip (fun a W hH => Flow.not_wanted 6 true 78 hH rfl rfl (by kernel_rfl) (by kernel_rfl) rfl rfl) ?_
      refine Flow.pass_skip (fun a W hH => Flow.not_wanted 6 true 78 hH rfl rfl (by kernel_rfl) (by kernel_rfl) rfl rfl) ?_
      refine Flow.pass_val (.bool false) (Flow.met_none rfl) (fun a W hH => ?_) ?_
      · have e0 := Flow.see_new 78 6 hH.sees (by kernel_rfl) (by kernel_rfl) rfl rfl
        have e1 := Flow.see_new 84 12 hH.sees (by kernel_rfl) (by kernel_rfl) rfl rfl
        go_simp; first | done | rfl | (simp; done)
      refine Flow.pass_copy 85 13 (Flow.met_none rfl) (.inl rfl) (by kernel_rfl) (by kernel_rfl) rfl rfl (fun _ _ => Flow.kept_eqs _ _) ?_
      refine Flow.pass_skip (fun a W hH => Flow.not_wanted 14 true 86 hH rfl rfl (by kernel_rfl) (by kernel_rfl) rfl rfl) ?_
      refine Flow.pass_skip (fun a W hH => Flow.not_wanted 14 true 86 hH rfl rfl (by kernel_rfl) (by kernel_rfl) rfl rfl) ?_
      refine Flow.pass_skip (fun a W hH => Flow.not_wanted 14 true 86 hH rfl rfl (by kernel_rfl) (by kernel_rfl) rfl rfl) ?_
      refine Flow.pass_skip (fun a W hH => Flow.not_wanted 14 true 86 hH rfl rfl (by kernel_rfl) (by kernel_rfl) rfl rfl) ?_
      refine Flow.pass_skip (fun a W hH => Flow.not_wanted 14 true 86 hH rfl rfl (by kernel_rfl) (by kernel_rfl) rfl rfl) ?_
      refine Flow.pass_val (.bool false) (Flow.met_none rfl) (fun a W hH => ?_) ?_
      · have e0 := Flow.see_new 86 14 hH.sees (by kernel_rfl) (by kernel_rfl) rfl rfl
        have e1 := Flow.see_new 91 19 hH.sees (by kernel_rfl) (by kernel_rfl) rfl rfl
        go_simp; first | done | rfl | (simp; done)
      refine Flow.pass_copy 92 20 (Flow.met_none rfl) (.inr rfl) (by kernel_rfl) (by kernel_rfl) rfl rfl (fun _ _ => Flow.kept_eqs _ _) ?_
      refine Flow.pass_end [none, none, none, none, none, none, none, none, none, none, none, none, none, none, none, none, some 16, none, none, none, none, none, none, none, none, none, none, none, none, none, none, none, none, none, none, none, none, none, none, none, none, none, none, none, none, none, none, none, none, none, none, none, none, none, none, none, none, none, none, none, none, none, none, none, none, none, none, none, none, none, none, none, some 72, some 73, some 74, some 75, some 76, some 77, some 78, some 79, some 80, some 81, some 82, some 83, some 84, some 85, some 86, some 87, some 88, some 89, some 90, some 91, some 92, none, none, none, none, none, none, none, none, none, none, none, none, none, none, none, none, none, none, none, none, none, none, none, none, none, none, none, none, none, none, none, none, none, none, none, none, none, none, none, none, none, none] (by kernel_rfl) ?_
      intro f gg w9 hB hfa hT hfg
      have h16 : f 16 = _ := (hfg 16 21 (by kernel_rfl)).trans (hT 21 _ (by kernel_rfl) rfl)
      have BX := (Below.refl W8.heap.size W8).drew.trans hB
      simp only [Reg.sel, h16]
      have hAA := hA8.below BX hA8.lt
      have hbA := hb8.below BX hb8.lt
      have hvA := hv8.below BX hv8.lt
      have hhA := hh8.below BX hh8.lt
      have BA := B8.trans (BX.mono B8.size)
      obtain ⟨W10, hW10⟩ : ∃ W, W = w9 := ⟨_, rfl⟩
      subst hW10
      clear hT hfg hfa hB hA8 hb8 hv8 hh8 B8 BX r18 r28 r38 h16
      go_wp2_with fail
      refine Flow.wp_region_flow (W10.heap.size) [] [] (by kernel_rfl) (by kernel_rfl) (Nat.le_refl _) (fun _ h => by cases h) Flow.facts_nil ?_
      refine Flow.pass_old (X := .bool false) 16 (Flow.met_none rfl) (.inl rfl) (by kernel_rfl) (by kernel_rfl) rfl ?_
      refine Flow.pass_copy 93 0 (Flow.met_none rfl) (.inl rfl) (by kernel_rfl) (by kernel_rfl) rfl rfl (fun _ _ => Flow.kept_eqs _ _) ?_
      refine Flow.pass_skip (fun a W hH => Flow.not_wanted 1 true 94 hH rfl rfl (by kernel_rfl) (by kernel_rfl) rfl rfl) ?_
      refine Flow.pass_skip (fun a W hH => Flow.not_wanted 1 true 94 hH rfl rfl (by kernel_rfl) (by kernel_rfl) rfl rfl) ?_
      refine Flow.pass_skip (fun a W hH => Flow.not_wanted 1 true 94 hH rfl rfl (by kernel_rfl) (by kernel_rfl) rfl rfl) ?_
      refine Flow.pass_skip (fun a W hH => Flow.not_wanted 1 true 94 hH rfl rfl (by kernel_rfl) (by kernel_rfl) rfl rfl) ?_
      refine Flow.pass_skip (fun a W hH => Flow.not_wanted 1 true 94 hH rfl rfl (by kernel_rfl) (by kernel_rfl) rfl rfl) ?_
      refine Flow.pass_val (.bool false) (Flow.met_none rfl) (fun a W hH => ?_) ?_
      · have e0 := Flow.see_new 94 1 hH.sees (by kernel_rfl) (by kernel_rfl) rfl rfl
        have e1 := Flow.see_new 99 6 hH.sees (by kernel_rfl) (by kernel_rfl) rfl rfl
        go_simp; first | done | rfl | (simp; done)
      refine Flow.pass_copy 100 7 (Flow.met_none rfl) (.inl rfl) (by kernel_rfl) (by kernel_rfl) rfl rfl (fun _ _ => Flow.kept_eqs _ _) ?_
      refine Flow.pass_skip (fun a W hH => Flow.not_wanted 8 true 101 hH rfl rfl (by kernel_rfl) (by kernel_rfl) rfl rfl) ?_
      refine Flow.pass_skip (fun a W hH => Flow.not_wanted 8 true 101 hH rfl rfl (by kernel_rfl) (by kernel_rfl) rfl rfl) ?_
      refine Flow.pass_skip (fun a W hH => Flow.not_wanted 8 true 101 hH rfl rfl (by kernel_rfl) (by kernel_rfl) rfl rfl) ?_
      refine Flow.pass_skip (fun a W hH => Flow.not_wanted 8 true 101 hH rfl rfl (by kernel_rfl) (by kernel_rfl) rfl rfl) ?_
      refine Flow.pass_val (.bool false) (Flow.met_none rfl) (fun a W hH => ?_) ?_
      · have e0 := Flow.see_new 101 8 hH.sees (by kernel_rfl) (by kernel_rfl) rfl rfl
        have e1 := Flow.see_new 105 12 hH.sees (by kernel_rfl) (by kernel_rfl) rfl rfl
        go_simp; first | done | rfl | (simp; done)
      refine Flow.pass_copy 106 13 (Flow.met_none rfl) (.inl rfl) (by kernel_rfl) (by kernel_rfl) rfl rfl (fun _ _ => Flow.kept_eqs _ _) ?_
      refine Flow.pass_skip (fun a W hH => Flow.not_wanted 14 true 107 hH rfl rfl (by kernel_rfl) (by kernel_rfl) rfl rfl) ?_
      refine Flow.pass_skip (fun a W hH => Flow.not_wanted 14 true 107 hH rfl rfl (by kernel_rfl) (by kernel_rfl) rfl rfl) ?_
      refine Flow.pass_skip (fun a W hH => Flow.not_wanted 14 true 107 hH rfl rfl (by kernel_rfl) (by kernel_rfl) rfl rfl) ?_
      refine Flow.pass_skip (fun a W hH => Flow.not_wanted 14 true 107 hH rfl rfl (by kernel_rfl) (by kernel_rfl) rfl rfl) ?_
      refine Flow.pass_skip (fun a W hH => Flow.not_wanted 14 true 107 hH rfl rfl (by kernel_rfl) (by kernel_rfl) rfl rfl) ?_
      refine Flow.pass_skip (fun a W hH => Flow.not_wanted 14 true 107 hH rfl rfl (by kernel_rfl) (by kernel_rfl) rfl rfl) ?_
      refine Flow.pass_skip (fun a W hH => Flow.not_wanted 14 true 107 hH rfl rfl (by kernel_rfl) (by kernel_rfl) rfl rfl) ?_
      refine Flow.pass_skip (fun a W hH => Flow.not_wanted 14 true 107 hH rfl rfl (by kernel_rfl) (by kernel_rfl) rfl rfl) ?_
      refine Flow.pass_skip (fun a W hH => Flow.not_wanted 14 true 107 hH rfl rfl (by kernel_rfl) (by kernel_rfl) rfl rfl) ?_
      refine Flow.pass_val (.bool false) (Flow.met_none rfl) (fun a W hH => ?_) ?_
      · have e0 := Flow.see_new 107 14 hH.sees (by kernel_rfl) (by kernel_rfl) rfl rfl
        have e1 := Flow.see_new 116 23 hH.sees (by kernel_rfl) (by kernel_rfl) rfl rfl
        go_simp; first | done | rfl | (simp; done)
      refine Flow.pass_copy 117 24 (Flow.met_none rfl) (.inr rfl) (by kernel_rfl) (by kernel_rfl) rfl rfl (fun _ _ => Flow.kept_eqs _ _) ?_
      refine Flow.pass_end [none, none, none, none, none, none, none, none, none, none, none, none, none, none, none, none, some 16, none, none, none, none, none, none, none, none, none, none, none, none, none, none, none, none, none, none, none, none, none, none, none, none, none, none, none, none, none, none, none, none, none, none, none, none, none, none, none, none, none, none, none, none, none, none, none, none, none, none, none, none, none, none, none, none, none, none, none, none, none, none, none, none, none, none, none, none, none, none, none, none, none, none, none, none, some 93, some 94, some 95, some 96, some 97, some 98, some 99, some 100, some 101, some 102, some 103, some 104, some 105, some 106, some 107, some 108, some 109, some 110, some 111, some 112, some 113, some 114, some 115, some 116, some 117, none, none, none, none, none, none, none, none, none, none, none, none, none, none, none, none, none] (by kernel_rfl) ?_
      intro f gg w9 hB hfa hT hfg
      have h16 : f 16 = _ := (hfg 16 25 (by kernel_rfl)).trans (hT 25 _ (by kernel_rfl) rfl)
      simp only [Reg.sel, h16]
      have BY := (Below.refl W10.heap.size W10).drew.trans hB
      have hvB := hvA.below BY hvA.lt
      have cE := vd_e hvB
      have BB := BA.trans (BY.mono BA.size)
      have hEn := HEF.out
      clear hT hfg hfa hB hAA hbA hvA hhA BA BY h16
      go_wp2
      go_ret
      exact ⟨rfl, BB⟩
end Go.Proofs.YtipdmhppadapkaaGreatDoor
