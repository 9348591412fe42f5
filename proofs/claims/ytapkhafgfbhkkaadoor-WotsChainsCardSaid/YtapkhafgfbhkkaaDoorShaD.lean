/-
  Walk: sha's state.block: a block taken in.
-/
import Derived.Test.YtapkhafgfbhkkaaDoorShaC
import Derived.StillTailTactics
import Derived.Deep.Cut
import Derived.Deep.DeepCutAuto
namespace Go.Proofs.YtapkhafgfbhkkaaDoor
open Go.RowKit Sha

attribute [local go_sem] u_uc u_shl24 u_shl16 u_shl8 u_shr3 u_shr10 u_xor u_and u_or u_not u_add u_add' u_shr u_shl u_shl' rotr_alt
set_option maxRecDepth 100000 in
set_option maxHeartbeats 4000000 in
theorem block_any (G : Nat) (tS : TypeId) (A : Option Addr) (c : Nat) (p : List UInt8) (hp' : p.length = 64) (v : V8) (tail : List Value) (w : World)
    (hG : Blk w G tS (wcells v.list ++ tail).toArray) (hR : Rd w w.heap.size 1 A 64 (bcells p)) {tK : TypeId} (hk : Blk w 1 tK (wcells kTab).toArray) (hG1 : G ≠ 1) :
    Calls Tryd.prog 69 #[.pointer (some ⟨G, 0, none⟩), .slice A 64 c] w fun e w' =>
      e = .returned (.tuple #[]) ∧ Blk w' G tS (wcells (comp v p).list ++ tail).toArray ∧ Chg (fun k => k = G) w w' := by
  have hp := Lib.hid hp'
  have HG := Lib.hid hG
  have HK := Lib.hid hk
  have HG1 := Lib.hid hG1
  clear hp' hG hk hG1
  have hz := zero64w
  go_enter Tryd.func69, Tryd.ntmps69
  go_wp2_with fail
  have hw0 := Blk.new w 95 (zw 64)
  have hB0 : Below w.heap.size w (w.alloc (.cells (zw 64) 95)) := (Below.refl _ _).alloc (Nat.le_refl _) _
  clear hz
  generalize w.alloc (.cells (zw 64) 95) = W0 at *
  go_loopw [20] (fun i wr => ∃ k : Nat, k ≤ 16 ∧ i = .int .i64 k ∧ Blk wr w.heap.size 95 (rcells 64 (sched p k)) ∧ Below w.heap.size w wr) (fun i _ => 16 - (intOf i).toNat)
  case atStart => exact ⟨0, by omega, rfl, hw0, hB0⟩
  case round =>
    obtain ⟨k, hk16, rfl, hw, hB⟩ := hrel
    by_cases hlt : k < 16
    · --<1
      obtain ⟨b, off, rfl, hab, hcs⟩ := (hR.below hB).range (by omega)
      have q0 := hcs (4 * k) _ (bcells_get p _ (by rw [hp.out]; omega))
      have q1 := hcs (4 * k + 1) _ (bcells_get p _ (by rw [hp.out]; omega))
      have q2 := hcs (4 * k + 2) _ (bcells_get p _ (by rw [hp.out]; omega))
      have q3 := hcs (4 * k + 3) _ (bcells_get p _ (by rw [hp.out]; omega))
      clear hcs
      have l0 : 4 * (k : Int) < (64 : Int) := by omega
      have g0 : 0 ≤ 4 * (k : Int) := by omega
      have t0 : (4 * (k : Int)).toNat = 4 * k := by omega
      have l1 : 4 * (k : Int) + 1 < (64 : Int) := by omega
      have g1 : 0 ≤ 4 * (k : Int) + 1 := by omega
      have t1 : (4 * (k : Int) + 1).toNat = 4 * k + 1 := by omega
      have l2 : 4 * (k : Int) + 2 < (64 : Int) := by omega
      have g2 : 0 ≤ 4 * (k : Int) + 2 := by omega
      have t2 : (4 * (k : Int) + 2).toNat = 4 * k + 2 := by omega
      have l3 : 4 * (k : Int) + 3 < (64 : Int) := by omega
      have g3 : 0 ≤ 4 * (k : Int) + 3 := by omega
      have t3 : (4 * (k : Int) + 3).toNat = 4 * k + 3 := by omega
      have e0 : IntKind.i64.wrap (4 * (k : Int)) = 4 * (k : Int) := IntWalk.i64_in _ (by omega)
      have e1 : IntKind.i64.wrap (4 * (k : Int) + 1) = 4 * (k : Int) + 1 := IntWalk.i64_in _ (by omega)
      have e2 : IntKind.i64.wrap (4 * (k : Int) + 2) = 4 * (k : Int) + 2 := IntWalk.i64_in _ (by omega)
      have e3 : IntKind.i64.wrap (4 * (k : Int) + 3) = 4 * (k : Int) + 3 := IntWalk.i64_in _ (by omega)
      go_wp2_with fail
      go_still_tail 34, (by kernel_rfl)
      change wpList _ _ _ _ _ wr.drew
      clear e0 e1 e2 e3 l0 l1 l2 l3 g0 g1 g2 g3 t0 t1 t2 t3 q0 q1 q2 q3
      have hw2 := hw.drew
      have hB2 := hB.drew
      generalize wr.drew = W2 at *
      clear hw hB
      have hl := sched_length p k
      obtain ⟨v1, hc1⟩ : ∃ v, W2.cell? ⟨w.heap.size, k, none⟩ = some v := by rw [hw2.cell]; exact rcells_any 64 _ k (by rw [hl]; omega) (by omega)
      have hf1 := hw2.frozen k
      go_wp2_with fail
      have hb2 := hw2.set_ k (.int .u32 (u (word p k)))
      have hBB := hB2.setCell (p := ⟨w.heap.size, k, none⟩) (by simp) (.int .u32 (u (word p k)))
      have e5 : sched p (k + 1) = sched p k ++ [word p k] := by simp [sched, hlt]
      have e6 := rcells_set 64 (sched p k) (word p k) (by rw [hl]; omega)
      rw [hl] at e6
      rw [e6, ← e5] at hb2
      go_roundw
      case rel => exact ⟨k + 1, by omega, by go_num, hb2, hBB⟩
      case measure => simp [intOf]; omega
      --1>
    · obtain rfl : k = 16 := by omega
      go_wp2_with fail
      go_loopw [6] (fun i wr => ∃ k : Nat, 16 ≤ k ∧ k ≤ 64 ∧ i = .int .i64 k ∧ Blk wr w.heap.size 95 (rcells 64 (sched p k)) ∧ Below w.heap.size w wr) (fun i _ => 64 - (intOf i).toNat)
      case atStart => exact ⟨16, by omega, by omega, rfl, hw, hB⟩
      case round =>
        clear hw hB hw0 hB0
        obtain ⟨k, hk16, hk64, rfl, hw, hB⟩ := hrel
        by_cases hlt : k < 64
        · --<2
          obtain ⟨m, hm⟩ : ∃ m, k = m + 16 := ⟨k - 16, by omega⟩
          obtain ⟨L, hL⟩ : ∃ L, L = sched p k := ⟨_, rfl⟩
          have hLl : L.length = k := by rw [hL, sched_length]
          obtain ⟨x16, h16⟩ : ∃ x, x = L[m]?.getD 0 := ⟨_, rfl⟩
          obtain ⟨x15, h15⟩ : ∃ x, x = L[m + 1]?.getD 0 := ⟨_, rfl⟩
          obtain ⟨x7, h7⟩ : ∃ x, x = L[m + 9]?.getD 0 := ⟨_, rfl⟩
          obtain ⟨x2, h2⟩ : ∃ x, x = L[m + 14]?.getD 0 := ⟨_, rfl⟩
          have R16 := Lib.hid (rcells_get 64 L m (by omega))
          have R15 := Lib.hid (rcells_get 64 L (m + 1) (by omega))
          have R7 := Lib.hid (rcells_get 64 L (m + 9) (by omega))
          have R2 := Lib.hid (rcells_get 64 L (m + 14) (by omega))
          rw [← h16] at R16
          rw [← h15] at R15
          rw [← h7] at R7
          rw [← h2] at R2
          have hnx : sched p (k + 1) = L ++ [x16 + lo0 x15 + x7 + lo1 x2] := by
            show sched p k ++ _ = _
            rw [← hL, if_neg (by omega), nextW, hLl, h16, h15, h7, h2, hm]
            simp
          rw [← hL] at hw
          have Hnx := Lib.hid hnx
          have HLl := Lib.hid hLl
          have Hm := Lib.hid hm
          clear h16 h15 h7 h2 hnx hL hLl hm
          go_wp2_with fail
          have hLl := HLl.out
          have hm := Hm.out
          refine Flow.wp_region_flow (w.heap.size) [(23, fun b => b = w.heap.size)] [(4, fun W => Blk W w.heap.size 95 (rcells 64 L)), (8, fun W => Blk W w.heap.size 95 (rcells 64 L)), (14, fun W => Blk W w.heap.size 95 (rcells 64 L)), (19, fun W => Blk W w.heap.size 95 (rcells 64 L)), (23, fun W => Blk W w.heap.size 95 (rcells 64 L))] (by kernel_rfl) (by kernel_rfl) hB.drew.size (Flow.nz_cons (by rintro b rfl; exact Nat.le_refl _) Flow.nz_nil) (Flow.facts_cons (hw.drew) (Flow.kept_blk id) (Flow.fz_cons (Flow.no_follow (by kernel_rfl)) Flow.fz_nil) (Flow.facts_cons (hw.drew) (Flow.kept_blk id) (Flow.fz_cons (Flow.no_follow (by kernel_rfl)) Flow.fz_nil) (Flow.facts_cons (hw.drew) (Flow.kept_blk id) (Flow.fz_cons (Flow.no_follow (by kernel_rfl)) Flow.fz_nil) (Flow.facts_cons (hw.drew) (Flow.kept_blk id) (Flow.fz_cons (Flow.no_follow (by kernel_rfl)) Flow.fz_nil) (Flow.facts_cons (hw.drew) (Flow.kept_blk id) (Flow.fz_cons (Flow.no_follow (by kernel_rfl)) Flow.fz_nil) Flow.facts_nil))))) ?_
          refine Flow.pass_old 6 (Flow.met_none rfl) (.inl rfl) (by kernel_rfl) (by kernel_rfl) rfl ?_
          refine Flow.pass_old 6 (Flow.met_none rfl) (.inl rfl) (by kernel_rfl) (by kernel_rfl) rfl ?_
          refine Flow.pass_val (.int .i64 ((m : Int))) (Flow.met_none rfl) (fun a W hH => ?_) ?_
          · have e0 := Flow.see_new 64 1 hH.sees (by kernel_rfl) (by kernel_rfl) rfl rfl
            go_simp; first | done | rfl | (rw [IntWalk.i64_in _ (by omega)]; first | done | rfl | omega | (simp; done))
          refine Flow.pass_val (.pointer (some ⟨w.heap.size, m, none⟩)) (Flow.met_none rfl) (fun a W hH => ?_) ?_
          · have e0 := Flow.see_old 4 hH.sees (by kernel_rfl) (by kernel_rfl) rfl
            have e1 := Flow.see_new 65 2 hH.sees (by kernel_rfl) (by kernel_rfl) rfl rfl
            exact reg_ixA (s := 1) (m) _ rfl Tryd.underlying95 (by kernel_rfl) (by first | exact e0 | simpa [Act.eval] using e0 | (simp [Act.eval])) (by first | exact e1 | simpa [Act.eval] using e1 | (simp [Act.eval])) (by first | rfl | (simp; done) | omega) (by omega) (by first | rfl | omega)
          refine Flow.pass_val (.int .u32 (u (x16))) (Flow.met_none rfl) (fun a W hH => ?_) ?_
          · have e0 := Flow.see_new 66 3 hH.sees (by kernel_rfl) (by kernel_rfl) rfl rfl
            have fa0 : (fun W => Blk W w.heap.size 95 (rcells 64 L)) W := hH.fact _ (List.mem_of_getElem? (i := 0) rfl) rfl
            have cc := (fa0.cell _).trans R16.out; go_simp
          refine Flow.pass_old 6 (Flow.met_none rfl) (.inl rfl) (by kernel_rfl) (by kernel_rfl) rfl ?_
          refine Flow.pass_val (.int .i64 (((m + 1 : Nat) : Int))) (Flow.met_none rfl) (fun a W hH => ?_) ?_
          · have e0 := Flow.see_new 68 5 hH.sees (by kernel_rfl) (by kernel_rfl) rfl rfl
            go_simp; first | done | rfl | (rw [IntWalk.i64_in _ (by omega)]; first | done | rfl | omega | (simp; done))
          refine Flow.pass_val (.pointer (some ⟨w.heap.size, m + 1, none⟩)) (Flow.met_none rfl) (fun a W hH => ?_) ?_
          · have e0 := Flow.see_old 4 hH.sees (by kernel_rfl) (by kernel_rfl) rfl
            have e1 := Flow.see_new 69 6 hH.sees (by kernel_rfl) (by kernel_rfl) rfl rfl
            exact reg_ixA (s := 1) (m + 1) _ rfl Tryd.underlying95 (by kernel_rfl) (by first | exact e0 | simpa [Act.eval] using e0 | (simp [Act.eval])) (by first | exact e1 | simpa [Act.eval] using e1 | (simp [Act.eval])) (by first | rfl | (simp; done) | omega) (by omega) (by first | rfl | omega)
          refine Flow.pass_val (.int .u32 (u (x15))) (Flow.met_none rfl) (fun a W hH => ?_) ?_
          · have e0 := Flow.see_new 70 7 hH.sees (by kernel_rfl) (by kernel_rfl) rfl rfl
            have fa1 : (fun W => Blk W w.heap.size 95 (rcells 64 L)) W := hH.fact _ (List.mem_of_getElem? (i := 1) rfl) rfl
            have cc := (fa1.cell _).trans R15.out; go_simp
          refine Flow.pass_step (Reg.eqs (.int .u32 (u (lo0 x15)))) (fun _ _ => Flow.kept_eqs _ _) (Flow.met_none rfl) (fun a W hH => ?_) ?_
          · have e0 := Flow.see_new 71 8 hH.sees (by kernel_rfl) (by kernel_rfl) rfl rfl
            refine Reg.wp_call rfl Tryd.func73 rfl (by kernel_rfl) (by simp [Act.eval, e0]) (mixed_lo0 x15 W) ?_
            rintro e w' ⟨rfl, nq, rfl⟩
            exact ⟨_, rfl, _, rfl, below_drewN (Below.refl _ _) nq, rfl⟩
          refine Flow.pass_val (.int .u32 (u (x16 + lo0 x15))) (Flow.met_none rfl) (fun a W hH => ?_) ?_
          · have e0 := Flow.see_new 67 4 hH.sees (by kernel_rfl) (by kernel_rfl) rfl rfl
            have e1 := Flow.see_new 72 9 hH.sees (by kernel_rfl) (by kernel_rfl) rfl rfl
            go_simp; first | done | rfl
          refine Flow.pass_old 6 (Flow.met_none rfl) (.inl rfl) (by kernel_rfl) (by kernel_rfl) rfl ?_
          refine Flow.pass_val (.int .i64 (((m + 9 : Nat) : Int))) (Flow.met_none rfl) (fun a W hH => ?_) ?_
          · have e0 := Flow.see_new 74 11 hH.sees (by kernel_rfl) (by kernel_rfl) rfl rfl
            go_simp; first | done | rfl | (rw [IntWalk.i64_in _ (by omega)]; first | done | rfl | omega | (simp; done))
          refine Flow.pass_val (.pointer (some ⟨w.heap.size, m + 9, none⟩)) (Flow.met_none rfl) (fun a W hH => ?_) ?_
          · have e0 := Flow.see_old 4 hH.sees (by kernel_rfl) (by kernel_rfl) rfl
            have e1 := Flow.see_new 75 12 hH.sees (by kernel_rfl) (by kernel_rfl) rfl rfl
            exact reg_ixA (s := 1) (m + 9) _ rfl Tryd.underlying95 (by kernel_rfl) (by first | exact e0 | simpa [Act.eval] using e0 | (simp [Act.eval])) (by first | exact e1 | simpa [Act.eval] using e1 | (simp [Act.eval])) (by first | rfl | (simp; done) | omega) (by omega) (by first | rfl | omega)
          refine Flow.pass_val (.int .u32 (u (x7))) (Flow.met_none rfl) (fun a W hH => ?_) ?_
          · have e0 := Flow.see_new 76 13 hH.sees (by kernel_rfl) (by kernel_rfl) rfl rfl
            have fa2 : (fun W => Blk W w.heap.size 95 (rcells 64 L)) W := hH.fact _ (List.mem_of_getElem? (i := 2) rfl) rfl
            have cc := (fa2.cell _).trans R7.out; go_simp
          refine Flow.pass_val (.int .u32 (u (x16 + lo0 x15 + x7))) (Flow.met_none rfl) (fun a W hH => ?_) ?_
          · have e0 := Flow.see_new 73 10 hH.sees (by kernel_rfl) (by kernel_rfl) rfl rfl
            have e1 := Flow.see_new 77 14 hH.sees (by kernel_rfl) (by kernel_rfl) rfl rfl
            go_simp; first | done | rfl
          refine Flow.pass_old 6 (Flow.met_none rfl) (.inl rfl) (by kernel_rfl) (by kernel_rfl) rfl ?_
          refine Flow.pass_val (.int .i64 (((m + 14 : Nat) : Int))) (Flow.met_none rfl) (fun a W hH => ?_) ?_
          · have e0 := Flow.see_new 79 16 hH.sees (by kernel_rfl) (by kernel_rfl) rfl rfl
            go_simp; first | done | rfl | (rw [IntWalk.i64_in _ (by omega)]; first | done | rfl | omega | (simp; done))
          refine Flow.pass_val (.pointer (some ⟨w.heap.size, m + 14, none⟩)) (Flow.met_none rfl) (fun a W hH => ?_) ?_
          · have e0 := Flow.see_old 4 hH.sees (by kernel_rfl) (by kernel_rfl) rfl
            have e1 := Flow.see_new 80 17 hH.sees (by kernel_rfl) (by kernel_rfl) rfl rfl
            exact reg_ixA (s := 1) (m + 14) _ rfl Tryd.underlying95 (by kernel_rfl) (by first | exact e0 | simpa [Act.eval] using e0 | (simp [Act.eval])) (by first | exact e1 | simpa [Act.eval] using e1 | (simp [Act.eval])) (by first | rfl | (simp; done) | omega) (by omega) (by first | rfl | omega)
          refine Flow.pass_val (.int .u32 (u (x2))) (Flow.met_none rfl) (fun a W hH => ?_) ?_
          · have e0 := Flow.see_new 81 18 hH.sees (by kernel_rfl) (by kernel_rfl) rfl rfl
            have fa3 : (fun W => Blk W w.heap.size 95 (rcells 64 L)) W := hH.fact _ (List.mem_of_getElem? (i := 3) rfl) rfl
            have cc := (fa3.cell _).trans R2.out; go_simp
          refine Flow.pass_step (Reg.eqs (.int .u32 (u (lo1 x2)))) (fun _ _ => Flow.kept_eqs _ _) (Flow.met_none rfl) (fun a W hH => ?_) ?_
          · have e0 := Flow.see_new 82 19 hH.sees (by kernel_rfl) (by kernel_rfl) rfl rfl
            refine Reg.wp_call rfl Tryd.func73 rfl (by kernel_rfl) (by simp [Act.eval, e0]) (mixed_lo1 x2 W) ?_
            rintro e w' ⟨rfl, nq, rfl⟩
            exact ⟨_, rfl, _, rfl, below_drewN (Below.refl _ _) nq, rfl⟩
          refine Flow.pass_val (.int .u32 (u (x16 + lo0 x15 + x7 + lo1 x2))) (Flow.met_none rfl) (fun a W hH => ?_) ?_
          · have e0 := Flow.see_new 78 15 hH.sees (by kernel_rfl) (by kernel_rfl) rfl rfl
            have e1 := Flow.see_new 83 20 hH.sees (by kernel_rfl) (by kernel_rfl) rfl rfl
            go_simp; first | done | rfl
          refine Flow.pass_val (.pointer (some ⟨w.heap.size, k, none⟩)) (Flow.met_none rfl) (fun a W hH => ?_) ?_
          · have e0 := Flow.see_old 4 hH.sees (by kernel_rfl) (by kernel_rfl) rfl
            have e1 := Flow.see_new 63 0 hH.sees (by kernel_rfl) (by kernel_rfl) rfl rfl
            exact reg_ixA (s := 1) (k) _ rfl Tryd.underlying95 (by kernel_rfl) (by first | exact e0 | simpa [Act.eval] using e0 | (simp [Act.eval])) (by first | exact e1 | simpa [Act.eval] using e1 | (simp [Act.eval])) (by first | rfl | (simp; done) | omega) (by omega) (by first | rfl | omega)
          refine Flow.pass_gen (fun _ W => Blk W w.heap.size 95 ((rcells 64 L).setIfInBounds k (.int .u32 (u (x16 + lo0 x15 + x7 + lo1 x2))))) (Flow.kept_of (fun _ _ _ c h => h.chg c id) (Flow.kz_cons (Flow.no_follow (by kernel_rfl)) Flow.kz_nil)) (Flow.met_none rfl) (fun a W hH => ?_) ?_
          · have e0 := Flow.see_new 85 22 hH.sees (by kernel_rfl) (by kernel_rfl) rfl rfl
            have e1 := Flow.see_new 84 21 hH.sees (by kernel_rfl) (by kernel_rfl) rfl rfl
            have fa4 : (fun W => Blk W w.heap.size 95 (rcells 64 L)) W := hH.fact _ (List.mem_of_getElem? (i := 4) rfl) rfl
            refine wp_skip0 (reg_storeInt rfl (by kernel_rfl) fa4 e0 e1 (by rw [rcells_size 64 L (by omega)]; omega)) ?_
            exact ⟨_, rfl, Chg.grown (grown_setL _ _ _ _) (by rintro j h; cases h; rfl), fa4.set_ _ _⟩
          refine Flow.pass_end [none, none, none, none, none, none, none, none, none, none, none, none, none, none, none, none, none, none, none, none, none, none, none, none, none, none, none, none, none, none, none, none, none, none, none, none, none, none, none, none, none, none, none, none, none, none, none, none, none, none, none, none, none, none, none, none, none, none, none, none, none, none, none, some 63, some 64, some 65, some 66, some 67, some 68, some 69, some 70, some 71, some 72, some 73, some 74, some 75, some 76, some 77, some 78, some 79, some 80, some 81, some 82, some 83, some 84, some 85, none, none, none, none, none, none, none, none, none, none, none, none, none, none, none, none, none, none, none, none, none, none, none, none, none, none, none, none, none, none, none, none, none, none, none, none, none, none, none, none, none, none, none, none, none, none, none, none, none, none, none, none, none, none, none, none, none, none, none, none, none, none, none, none, none, none, none, none, none, none, none, none, none, none, none, none, none, none, none, none, none, none, none, none, none, none, none, none, none, none, none, none, none, none, none, none, none, none, none, none, none, none, none, none, none, none, none, none, none, none, none, none, none] (by kernel_rfl) ?_
          intro f gg w9 hB9 hfa hT hfg
          have h23 := hT 23 _ (by kernel_rfl) rfl
          have B9 := hB.drew.trans hB9
          clear hfa hT hfg hB9
          have e6 := rcells_set 64 L (x16 + lo0 x15 + x7 + lo1 x2) (by rw [hLl]; exact hlt)
          rw [hLl] at e6
          rw [e6, ← Hnx.out] at h23
          clear e6 hLl hm
          simp only [Reg.sel]
          go_wp2
          go_roundw
          case rel => exact ⟨k + 1, by omega, by omega, by go_num, h23, B9⟩
          case measure => simp [intOf]; omega
          --2>
        · obtain rfl : k = 64 := by omega
          obtain ⟨SP, hSP⟩ : ∃ SP, SP = sched p 64 := ⟨_, rfl⟩
          have hl : SP.length = 64 := by rw [hSP, sched_length]
          rw [← hSP] at hw
          have HSP := Lib.hid hSP
          have HL := Lib.hid hl
          have hG1 := (HG.out).below hB (HG.out).lt
          have hK1 := (HK.out).below hB (HK.out).lt
          clear hSP hl hlt hk16 hk64
          go_wp2_with fail
          have HG1 := Lib.hid hG1
          have c0 : wr.cell? ⟨G, 0, none⟩ = some (.int .u32 (u v.a)) := by rw [hG1.cell]; rfl
          have c1 : wr.cell? ⟨G, 1, none⟩ = some (.int .u32 (u v.b)) := by rw [hG1.cell]; rfl
          have c2 : wr.cell? ⟨G, 2, none⟩ = some (.int .u32 (u v.c)) := by rw [hG1.cell]; rfl
          have c3 : wr.cell? ⟨G, 3, none⟩ = some (.int .u32 (u v.d)) := by rw [hG1.cell]; rfl
          have c4 : wr.cell? ⟨G, 4, none⟩ = some (.int .u32 (u v.e)) := by rw [hG1.cell]; rfl
          have c5 : wr.cell? ⟨G, 5, none⟩ = some (.int .u32 (u v.f)) := by rw [hG1.cell]; rfl
          have c6 : wr.cell? ⟨G, 6, none⟩ = some (.int .u32 (u v.g)) := by rw [hG1.cell]; rfl
          have c7 : wr.cell? ⟨G, 7, none⟩ = some (.int .u32 (u v.h)) := by rw [hG1.cell]; rfl
          clear hG1
          go_quiet (fail)
          clear c0 c1 c2 c3 c4 c5 c6 c7
          have hw2 := hw.drewN nq
          have hG2 := (HG1.out).drewN nq
          have hK2 := hK1.drewN nq
          have hB2 := below_drewN hB nq
          generalize wr.drewN nq = W1 at *
          clear hw HG1 hK1 hB
          go_wp2_with fail
          go_loopw [7, 8, 9, 10, 11, 12, 13, 14, 126] (fun sa sb sc sd se sf sg sh i wr => ∃ k : Nat, k ≤ 64 ∧ i = .int .i64 k ∧ sa = .int .u32 (u (v.rnds kTab SP k).a) ∧ sb = .int .u32 (u (v.rnds kTab SP k).b) ∧ sc = .int .u32 (u (v.rnds kTab SP k).c) ∧ sd = .int .u32 (u (v.rnds kTab SP k).d) ∧
            se = .int .u32 (u (v.rnds kTab SP k).e) ∧ sf = .int .u32 (u (v.rnds kTab SP k).f) ∧ sg = .int .u32 (u (v.rnds kTab SP k).g) ∧ sh = .int .u32 (u (v.rnds kTab SP k).h) ∧ ∃ q, wr = W1.drewN q) (fun _ _ _ _ _ _ _ _ i _ => 64 - (intOf i).toNat)
          case atStart => exact ⟨0, by omega, rfl, rfl, rfl, rfl, rfl, rfl, rfl, rfl, rfl, 0, rfl⟩
          case round =>
            obtain ⟨k, hk64, rfl, rfl, rfl, rfl, rfl, rfl, rfl, rfl, rfl, q, rfl⟩ := hrel
            by_cases hlt : k < 64
            · --<3
              have hw3 := hw2.drewN q
              have hK3 := hK2.drewN q
              have cw : (W1.drewN q).cell? ⟨w.heap.size, k, none⟩ = some (.int .u32 (u (SP[k]?.getD 0))) := (hw3.cell k).trans (rcells_get 64 SP k (by rw [HL.out]; exact hlt))
              have ck : (W1.drewN q).cell? ⟨1, k, none⟩ = some (.int .u32 (u (kTab[k]?.getD 0))) := (hK3.cell k).trans (by rw [List.getElem?_toArray]; exact wcells_get kTab k hlt)
              obtain ⟨V, hV⟩ : ∃ V, V = v.rnds kTab SP k := ⟨_, rfl⟩
              obtain ⟨xk, hxk⟩ : ∃ x, x = kTab[k]?.getD 0 := ⟨_, rfl⟩
              have hnx : v.rnds kTab SP (k + 1) = V.rnd xk (SP[k]?.getD 0) := by show (v.rnds kTab SP k).rnd _ _ = _; rw [← hV, ← hxk]
              rw [← hV] at *
              rw [← hxk] at ck
              have Hnx := Lib.hid hnx
              clear hnx hV hxk hw3 hK3
              obtain ⟨va, vb, vc, vd, ve, vf, vg, vh⟩ := V
              obtain ⟨W2, hW2⟩ : ∃ W2, W2 = W1.drewN q := ⟨_, rfl⟩
              rw [← hW2] at cw ck ⊢
              have HW2 := Lib.hid hW2
              clear hW2
              go_wp2_with fail
              go_quiet ((go_at_call 74; refine Calls.quiet_of_same (turned_any _ _ _ _ (by omega) (by omega) (by omega) (by omega) (by omega) (by omega) _)))
              clear cw ck
              go_wp2_with fail
              refine (turned_any _ _ _ _ (by omega) (by omega) (by omega) (by omega) (by omega) (by omega) _).mono ?_
              rintro e w' ⟨rfl, rfl⟩
              go_wp2
              go_roundw
              case rel =>
                (repeat apply Exists.intro)
                refine ⟨?_, rfl⟩
                refine ⟨k + 1, by omega, by go_num, ?_, ?_, ?_, ?_, ?_, ?_, ?_, ?_, q + nq, by rw [HW2.out, World.drewN_drewN]⟩
                all_goals rw [Hnx.out]
                all_goals first
                  | rfl
                  | (simp only [V8.rnd, up0, up1, ← ch_alt, ← maj_alt]; rfl)
              case measure => simp [intOf]; omega
              --3>
            · obtain rfl : k = 64 := by omega
              obtain ⟨V, hV⟩ : ∃ V, V = v.rnds kTab SP 64 := ⟨_, rfl⟩
              have hcomp : comp v p = v.add V := by unfold comp; rw [← HSP.out, hV]
              rw [← hV] at *
              have hG3 := hG2.drewN q
              have hB3 := below_drewN hB2 q
              have HC := Lib.hid hcomp
              generalize W1.drewN q = W2 at *
              clear hV hcomp hG2 hK2 hw2 hB2 hlt hk64
              obtain ⟨va, vb, vc, vd, ve, vf, vg, vh⟩ := V
              go_wp2_with fail
              have hCh : Chg (fun b => b = G) w W2 := Chg.of_below hB3 (fun b h1 h2 => by omega)
              go_loopw [183] (fun i wr => ∃ k : Nat, k ≤ 8 ∧ i = .int .i64 k ∧ Blk wr G tS (wcells (mixW v ⟨va, vb, vc, vd, ve, vf, vg, vh⟩ k) ++ tail).toArray ∧ Chg (fun b => b = G) w wr) (fun i _ => 8 - (intOf i).toNat)
              case atStart => exact ⟨0, by omega, rfl, hG3, hCh⟩
              case round =>
                clear hG3 hB3 hCh
                obtain ⟨k, hk8, rfl, hG4, hCh⟩ := hrel
                by_cases hlt : k < 8
                · have hix : ∀ W, (Instr.index 75 (.agg #[.int .u32 (u va), .int .u32 (u vb), .int .u32 (u vc), .int .u32 (u vd), .int .u32 (u ve), .int .u32 (u vf), .int .u32 (u vg), .int .u32 (u vh)]) (.int .i64 (k : Int))).run Tryd.prog W = .ok (.int .u32 (u ((V8.list ⟨va, vb, vc, vd, ve, vf, vg, vh⟩)[k]?.getD 0))) W := fun W => wordIndex Tryd.underlying75 Tryd.underlying22 (by kernel_rfl) (V8.list ⟨va, vb, vc, vd, ve, vf, vg, vh⟩) rfl k hlt W
                  obtain ⟨x, hx⟩ : ∃ x, x = (V8.list ⟨va, vb, vc, vd, ve, vf, vg, vh⟩)[k]?.getD 0 := ⟨_, rfl⟩
                  obtain ⟨y, hy⟩ : ∃ y, y = v.list[k]?.getD 0 := ⟨_, rfl⟩
                  have hml : k < (mixW v ⟨va, vb, vc, vd, ve, vf, vg, vh⟩ k).length := by rw [mixW_length]; exact hlt
                  have cg : wr.cell? ⟨G, k, none⟩ = some (.int .u32 (u y)) := (hG4.cell k).trans (by rw [List.getElem?_toArray, wtail_get _ _ _ hml, mixW_get _ _ _ hlt, hy])
                  have hf := hG4.frozen k
                  have hs2 := wtail_set (mixW v ⟨va, vb, vc, vd, ve, vf, vg, vh⟩ k) tail k (y + x) hml
                  rw [hx, hy, mixW_succ _ _ _ hlt, ← hx, ← hy] at hs2
                  have HS2 := Lib.hid hs2
                  rw [← hx] at hix
                  clear hs2 hx hy hml
                  go_wp2_with fail
                  have g0 : (0 : Int) ≤ (k : Int) := by omega
                  have l0 : (k : Int) < (8 : Int) := by omega
                  go_still_tail 10, (by kernel_rfl)
                  change wpList _ _ _ _ _ wr.drew
                  have hG5 := hG4.drew
                  have hC5 := hCh.drew
                  have hf5 := hG5.frozen k
                  have cg5 : wr.drew.cell? ⟨G, k, none⟩ = some (.int .u32 (u y)) := cg
                  generalize wr.drew = W5 at *
                  clear cg hf hix hG4 hCh
                  go_wp2_with fail
                  have hG6 := hG5.set_ k (.int .u32 (u (y + x)))
                  rw [HS2.out] at hG6
                  have hC6 : Chg (fun b => b = G) w (W5.setCell ⟨G, k, none⟩ (.int .u32 (u (y + x)))) := hC5.trans (Chg.grown (grown_setL _ _ _ _) (by rintro j h; cases h; rfl))
                  go_roundw
                  case rel =>
                    (repeat apply Exists.intro)
                    refine ⟨?_, rfl⟩
                    exact ⟨k + 1, by omega, by go_num, hG6, hC6⟩
                  case measure => simp [intOf]; omega
                · obtain rfl : k = 8 := by omega
                  rw [mixW_all, ← HC.out] at hG4
                  go_wp2
                  go_end0
                  exact ⟨rfl, hG4, hCh⟩
end Go.Proofs.YtapkhafgfbhkkaaDoor
