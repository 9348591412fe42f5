/-
  Walk: portreeveref14.PutHeader.
-/
import Derived.Test.YtnjfghlgknnhmaaImgE
namespace Go.Proofs.Ytnjfghlgknnhmaa
open Go.RowKit

theorem hdBytes_eq (h : Hd) (h16 : h.name.length ≤ 16) : [] ++ putNum 1112100167 4 false ++ putNum h.ver 4 false ++ putNum h.size 4 false ++ putNum 0 4 false ++ nmPad h.name 16 ++ h.dig = hdBytes h := by
  rw [nmPad_16 _ h16]
  simp [hdBytes, putAll]

set_option maxRecDepth 100000 in
set_option maxHeartbeats 4000000 in
theorem rPutHeader_any (h : Hd) (ok : h.ok) (w : World) :
    Calls Try.prog 30 #[.agg (hdCells h).toArray] w (BytesErr w (putHd h) (putHdErr h)) := by
  have hdL := Lib.hid ok.dig
  have hbH := (Blk.new w 55 (hdCells h).toArray).alloc (.cells #[.slice none 0 0, .int .i64 0] 110)
  have hbW := blkI1 w (.cells (hdCells h).toArray 55) 110 #[.slice none 0 0, .int .i64 0]
  have B1 : Below w.heap.size w ((w.alloc (.cells (hdCells h).toArray 55)).alloc (.cells #[.slice none 0 0, .int .i64 0] 110)) := ((Below.refl _ _).alloc (Nat.le_refl _) _).alloc (by simp) _
  have cv : IntKind.u64.wrap (h.ver : Int) = (h.ver : Int) := IntWalk.u64_in _ (by have := ok.ver; omega)
  have cs : IntKind.u64.wrap (h.size : Int) = (h.size : Int) := IntWalk.u64_in _ (by have := ok.size; omega)
  go_enter Try.func30, Try.ntmps30
  go_wp2_with fail
  generalize (w.alloc (.cells (hdCells h).toArray 55)).alloc (.cells #[.slice none 0 0, .int .i64 0] 110) = W1 at *
  have hS1 : WrSt W1 (w.heap.size + 1) [] 0 := ⟨none, 0, hbW, World.ownsRow_nil _ _ _ _⟩
  clear hbW
  refine (wput_any (w.heap.size + 1) [] 0 1112100167 4 (by omega) (by simp) W1 hS1).mono ?_
  rintro e W2 ⟨⟨u, rfl⟩, hS2, hB2⟩
  have hbH2 := hbH.below hB2 (by omega)
  have B2 := B1.trans (hB2.mono (by omega))
  have c0 : W2.cell? ⟨w.heap.size, 0, none⟩ = some (.int .u32 (h.ver : Int)) := (hbH2.cell 0).trans rfl
  clear hbH B1 hS1 hB2
  go_wp2_with fail
  refine (wput_any (w.heap.size + 1) _ 0 h.ver 4 (by omega) (by simp [putNum_length]) W2 hS2).mono ?_
  rintro e W3 ⟨⟨u3, rfl⟩, hS3, hB3⟩
  have hbH3 := hbH2.below hB3 (by omega)
  have B3 := B2.trans (hB3.mono (by omega))
  have c1 : W3.cell? ⟨w.heap.size, 1, none⟩ = some (.int .u32 (h.size : Int)) := (hbH3.cell 1).trans rfl
  clear hbH2 B2 hS2 hB3 c0
  go_wp2_with fail
  refine (wput_any (w.heap.size + 1) _ 0 h.size 4 (by omega) (by simp [putNum_length]) W3 hS3).mono ?_
  rintro e W4 ⟨⟨u4, rfl⟩, hS4, hB4⟩
  have hbH4 := hbH3.below hB4 (by omega)
  have B4 := B3.trans (hB4.mono (by omega))
  clear hbH3 B3 hS3 hB4 c1
  go_wp2_with fail
  refine (wput_any (w.heap.size + 1) _ 0 0 4 (by omega) (by simp [putNum_length]) W4 hS4).mono ?_
  rintro e W5 ⟨⟨u5, rfl⟩, hS5, hB5⟩
  have hbH5 := hbH4.below hB5 (by omega)
  have B5 := B4.trans (hB5.mono (by omega))
  have c2 : W5.cell? ⟨w.heap.size, 2, none⟩ = some (.string ⟨h.name.toArray⟩) := (hbH5.cell 2).trans rfl
  clear hbH4 B4 hS4 hB5
  go_wp2_with fail
  refine (wname_any (w.heap.size + 1) _ (by simp [putNum_length]) ⟨h.name.toArray⟩ ok.name W5 hS5).mono ?_
  rintro e W6 ⟨⟨u6, rfl⟩, hS6, hB6⟩
  have hbH := hbH5.below hB6 (by omega)
  have B6 := B5.trans (hB6.mono (by omega))
  clear hbH5 B5 hS5 hB6 c2
  obtain ⟨A9, c9, hb9, hO9⟩ := hS6
  cases hk : nmOk h.name with
  | false =>
    have c4 : W6.cell? ⟨w.heap.size + 1, 1, none⟩ = some (.int .i64 143) := by
      rw [hb9.cell 1, if_pos hk]; rfl
    go_wp2
    go_ret2
    rw [putHd, putHdErr, hk]
    exact ⟨none, 0, rfl, Nat.le_refl _, Rd.nil _ _ _ _, B6⟩
  | true =>
    have h16 := nmOk_le hk
    have c4 : W6.cell? ⟨w.heap.size + 1, 1, none⟩ = some (.int .i64 0) := by
      rw [hb9.cell 1, if_neg (by simp [hk])]; rfl
    have hE := hdBytes_eq h h16
    obtain ⟨BL, hBL⟩ : ∃ BL, BL = [] ++ putNum 1112100167 4 false ++ putNum h.ver 4 false ++ putNum h.size 4 false ++ putNum 0 4 false ++ nmPad h.name 16 := ⟨_, rfl⟩
    have hEq : Hid (BL ++ h.dig = hdBytes h) := Lib.hid (by rw [hBL]; exact hE)
    have hb9 : Blk W6 (w.heap.size + 1) 110 #[.slice A9 BL.length c9, .int .i64 (if nmOk h.name = false then 143 else 0)] := by rw [hBL]; exact hb9
    have hO9 : W6.ownsRow (w.heap.size + 2) 5 1 (.slice A9 BL.length c9) BL.length (bcells BL) := by rw [hBL]; exact hO9
    have hBLl : BL.length = 32 := by rw [hBL]; simp [putNum_length, nmPad_length]
    have hN9 : w.heap.size + 2 ≤ W6.drew.heap.size := Nat.le_of_lt_succ (by have := hb9.lt; simp; omega)
    clear hBL hE
    go_wp2_with fail
    refine Flow.wp_region_flow (w.heap.size + 2) [(6, fun b => w.heap.size + 2 ≤ b)] [(6, fun W => W.ownsRow (w.heap.size + 2) 5 1 (.slice A9 BL.length c9) BL.length (bcells BL))] (by kernel_rfl) (by kernel_rfl) hN9 (Flow.nz_cons (fun _ h => h) Flow.nz_nil) (Flow.facts_cons (hO9.drew) (fun _ _ c h => own_chg h c (fun _ _ => id)) (Flow.fz_cons (Flow.no_follow (by kernel_rfl)) Flow.fz_nil) Flow.facts_nil) ?_
    refine Flow.pass_old (X := .pointer (some ⟨w.heap.size + 1, 0, none⟩)) 4 (Flow.met_none rfl) (.inl rfl) (by kernel_rfl) (by kernel_rfl) rfl ?_
    refine Flow.pass_val (.pointer (some ⟨w.heap.size + 1, 0, none⟩)) (Flow.met_none rfl) (fun a W hH => ?_) ?_
    · have e0 := Flow.see_new 30 0 hH.sees (by kernel_rfl) (by kernel_rfl) rfl rfl
      go_simp; first | done | rfl
    refine Flow.pass_val (.pointer (some ⟨w.heap.size + 1, 0, none⟩)) (Flow.met_none rfl) (fun a W hH => ?_) ?_
    · have e0 := Flow.see_new 31 1 hH.sees (by kernel_rfl) (by kernel_rfl) rfl rfl
      go_simp; first | done | rfl
    refine Flow.pass_val (.slice A9 BL.length c9) (Flow.met_none rfl) (fun a W hH => ?_) ?_
    · have e0 := Flow.see_new 32 2 hH.sees (by kernel_rfl) (by kernel_rfl) rfl rfl
      have cc : World.cell? W ⟨w.heap.size + 1, 0, none⟩ = some (.slice A9 BL.length c9) := ((hb9.drew.below hH.below (by omega)).cell 0).trans rfl; go_simp
    refine Flow.pass_val (.pointer (some ⟨w.heap.size, 3, none⟩)) (Flow.met_none rfl) (fun a W hH => ?_) ?_
    · have e0 := Flow.see_old 1 hH.sees (by kernel_rfl) (by kernel_rfl) rfl
      go_simp; first | done | rfl
    refine Flow.pass_val (.slice (some ⟨w.heap.size, 3, none⟩) 32 32) (Flow.met_none rfl) (fun a W hH => ?_) ?_
    · have e0 := Flow.see_new 34 4 hH.sees (by kernel_rfl) (by kernel_rfl) rfl rfl
      go_simp; first | done | rfl
    refine Flow.pass_list (fun v W => ∃ A c, v = .slice A (BL.length + 32) c ∧ W.ownsRow (w.heap.size + 2) 5 1 (.slice A (BL.length + 32) c) (BL.length + 32) (bcells (BL ++ h.dig))) (Flow.kept_of (fun _ _ _ c ⟨A, k, h1, h2⟩ => ⟨A, k, h1, own_chg h2 c (fun _ _ => id)⟩) (Flow.kz_cons (Flow.no_follow (by kernel_rfl)) Flow.kz_nil)) (Flow.met_none rfl) (fun a W hH => ?_) ?_
    · have e0 := Flow.see_new 33 3 hH.sees (by kernel_rfl) (by kernel_rfl) rfl rfl
      have e1 := Flow.see_new 35 5 hH.sees (by kernel_rfl) (by kernel_rfl) rfl rfl
      have fa0 : (fun W => W.ownsRow (w.heap.size + 2) 5 1 (.slice A9 BL.length c9) BL.length (bcells BL)) W := hH.fact _ (List.mem_of_getElem? (i := 0) rfl) rfl
      have hw2 : w.heap.size + 2 ≤ W.heap.size := Nat.le_trans hN9 hH.below.size
      refine wpList_app W el8 rfl _ _ rfl (w.heap.size + 2) A9 BL.length c9 _ (by simpa [Act.eval] using e0) fa0 _ (some ⟨w.heap.size, 3, none⟩) 32 32 _ (by simpa [Act.eval] using e1) (hd_dig (hbH.drew.below hH.below (by omega)) hdL.out) (bcells_one h.dig) (by omega) (by omega) hw2 ?_
      intro A' c' W2 hO2 hg hB _
      exact Flow.qq_nil ⟨_, rfl, Chg.of_below hB (fun k hk _ => hk), A', c', rfl, by rw [bcells_append]; exact hO2⟩
    refine Flow.pass_copy 36 6 (Flow.met_none rfl) (.inr rfl) (by kernel_rfl) (by kernel_rfl) rfl rfl (Flow.kept_of (fun _ _ _ c ⟨A, k, h1, h2⟩ => ⟨A, k, h1, own_chg h2 c (fun _ _ => id)⟩) (Flow.kz_cons (Flow.no_follow (by kernel_rfl)) Flow.kz_nil)) ?_
    apply Flow.pass_val (hm := (Flow.met_none rfl))
    · intro a W hH
      go_simp; first | done | rfl
    refine Flow.pass_end [none, none, some 2, some 3, none, none, none, none, none, none, none, none, none, none, none, none, none, none, none, none, none, none, none, none, none, none, none, none, none, none, some 30, some 31, some 32, some 33, some 34, some 35, some 36] (by kernel_rfl) ?_
    intro f gg w9 hB hfa hT hfg
    obtain ⟨A2, c2, h2, g2⟩ := hT 7 _ (by kernel_rfl) rfl
    rw [← hfg 2 7 (by kernel_rfl)] at h2
    have h3 : f 3 = _ := (hfg 3 8 (by kernel_rfl)).trans (hT 8 _ (by kernel_rfl) rfl)
    have B9 := B6.drew.trans (hB.mono (by omega))
    simp only [Reg.sel, h2, h3]
    clear hT hfg hfa h2 h3 hB
    go_wp2
    go_ret2
    rw [putHd, putHdErr, hk]
    have hl := hdBytes_length h hdL.out h16
    rw [hEq.out, show BL.length + 32 = 64 by omega] at g2
    rw [show BL.length + 32 = 64 by omega]
    refine ⟨A2, c2, ?_, ?_, ?_, B9⟩ <;> simp only [if_true, hl] <;> first | rfl | exact Flow.own_le g2 | exact Rd.of_own g2
end Go.Proofs.Ytnjfghlgknnhmaa
