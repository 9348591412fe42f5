/-
  Walk: load.Check.
-/
import Derived.Test.YtipdmhppadapkaaGreatDoorLdF
namespace Go.Proofs.YtipdmhppadapkaaGreatDoor
open Go.RowKit Sha

def vVer (l : List UInt8) (g : Gu) (c : Ctr) : Nat := if vErr l g c = 0 then (gHd l g).ver else 0
def vDig (l : List UInt8) (g : Gu) (c : Ctr) : List UInt8 := if vErr l g c = 0 then (gHd l g).dig else z32
def vPay (l : List UInt8) (g : Gu) (c : Ctr) : List UInt8 := if vErr l g c = 0 then gPay l g else []
/-- a verdict -/
def CkRet (w : World) (l : List UInt8) (g : Gu) (c : Ctr) (e : Ending) (w' : World) : Prop :=
  ∃ A k, e = .returned (.agg (vdCells (vErr l g c) (vVer l g c) (vDig l g c) A (vPay l g c).length k).toArray) ∧ (vPay l g c).length ≤ k ∧ Rd w' w'.heap.size 1 A (vPay l g c).length (bcells (vPay l g c)) ∧ Below w.heap.size w w'
/-- .. and its payload is a row of uint8 -/
def CkRetU (w : World) (l : List UInt8) (g : Gu) (c : Ctr) (e : Ending) (w' : World) : Prop :=
  ∃ A k, e = .returned (.agg (vdCells (vErr l g c) (vVer l g c) (vDig l g c) A (vPay l g c).length k).toArray) ∧ ((vPay l g c).length ≤ k ∧ k ≤ 9223372036854775807) ∧ Rd w' w'.heap.size 1 A (vPay l g c).length (bcells (vPay l g c)) ∧ Below w.heap.size w w' ∧ IsU8 w' A
theorem blk4a (w : World) (o1 o2 o3 : Obj) (t : TypeId) (cs : Array Value) : Blk ((((w.alloc (.cells cs t)).alloc o1).alloc o2).alloc o3) w.heap.size t cs := (((Blk.new w t cs).alloc o1).alloc o2).alloc o3
theorem blk4b (w : World) (o0 o2 o3 : Obj) (t : TypeId) (cs : Array Value) : Blk ((((w.alloc o0).alloc (.cells cs t)).alloc o2).alloc o3) (w.heap.size + 1) t cs := by
  have h := (((Blk.new (w.alloc o0) t cs).alloc o2).alloc o3)
  rwa [World.size_alloc] at h
theorem blk4c (w : World) (o0 o1 o3 : Obj) (t : TypeId) (cs : Array Value) : Blk ((((w.alloc o0).alloc o1).alloc (.cells cs t)).alloc o3) (w.heap.size + 2) t cs := by
  have h := ((Blk.new ((w.alloc o0).alloc o1) t cs).alloc o3)
  rwa [World.size_alloc, World.size_alloc] at h
theorem blk4d (w : World) (o0 o1 o2 : Obj) (t : TypeId) (cs : Array Value) : Blk ((((w.alloc o0).alloc o1).alloc o2).alloc (.cells cs t)) (w.heap.size + 3) t cs := by
  have h := (Blk.new (((w.alloc o0).alloc o1).alloc o2) t cs)
  rwa [World.size_alloc, World.size_alloc, World.size_alloc] at h

set_option maxRecDepth 100000 in
set_option maxHeartbeats 2000000 in
theorem lcheck_new (f : Nat) (l : List UInt8) (hl5 : l.length ≤ 1000000) (g : Gu) (c : Ctr) (w : World) (ok : g.ok w w.heap.size) (hF : FL w f l) (hT : Tabs w) :
    Calls Tryz.prog 10 #[.pointer (some ⟨f, 0, none⟩), .agg g.cells.toArray, .agg c.cells] w (CkRetU w l g c) := by
  have hz := zeroVd
  have hA := blk4a w (.cells g.cells.toArray 31) (.cells c.cells 34) (.cells vdz 41) 43 #[.pointer (some ⟨f, 0, none⟩)]
  have hB := blk4b w (.cells #[.pointer (some ⟨f, 0, none⟩)] 43) (.cells c.cells 34) (.cells vdz 41) 31 g.cells.toArray
  have hC := blk4c w (.cells #[.pointer (some ⟨f, 0, none⟩)] 43) (.cells g.cells.toArray 31) (.cells vdz 41) 34 c.cells
  have hD := blk4d w (.cells #[.pointer (some ⟨f, 0, none⟩)] 43) (.cells g.cells.toArray 31) (.cells c.cells 34) 41 vdz
  have B1 : Below w.heap.size w ((((w.alloc (.cells #[.pointer (some ⟨f, 0, none⟩)] 43)).alloc (.cells g.cells.toArray 31)).alloc (.cells c.cells 34)).alloc (.cells vdz 41)) := ((((Below.refl _ _).alloc (Nat.le_refl _) _).alloc (by simp) _).alloc (by simp; omega) _).alloc (by simp; omega) _
  have hs1 : ((((w.alloc (.cells #[.pointer (some ⟨f, 0, none⟩)] 43)).alloc (.cells g.cells.toArray 31)).alloc (.cells c.cells 34)).alloc (.cells vdz 41)).heap.size = w.heap.size + 4 := by simp
  have hk := ok.key
  have hki := Lib.hid hk
  go_enter Tryz.func10, Tryz.ntmps10
  have hk7 := hki
  clear hk
  go_wp2_with (first
    | ((with_reducible refine at_load 31 ?_); refine wpList_loadAllW _ rfl 31 _ rfl (w.heap.size + 1) 31 g.cells.toArray hB _ rfl Tryz.underlying31 rfl (by rw [List.size_toArray, g.cells_length hki.out]; exact inf_gu) ?_; generalize (((w.alloc (.cells #[.pointer (some ⟨f, 0, none⟩)] 43)).alloc (.cells g.cells.toArray 31)).alloc (.cells c.cells 34)).alloc (.cells vdz 41) = W1 at *; have HS1 := Lib.hid hs1; clear hs1)
    | ((with_reducible refine at_build 82 ?_); refine wpList_buildV _ rfl #[(0, .agg g.cells.toArray)] rfl (by simp [Act.eval, Act.put]) (run_look _ g hki.out) ?_)
    | ((with_reducible refine at_buildSlice 143 ?_); refine wpList_runV rfl (Flow.reg_buildSlice #[(0, ckV (W1.heap.size + 1) w.heap.size (w.heap.size + 2) 0), (1, ckV (W1.heap.size + 1) w.heap.size (w.heap.size + 2) 1), (2, ckV (W1.heap.size + 1) w.heap.size (w.heap.size + 2) 2), (3, ckV (W1.heap.size + 1) w.heap.size (w.heap.size + 2) 3), (4, ckV (W1.heap.size + 1) w.heap.size (w.heap.size + 2) 4), (5, ckV (W1.heap.size + 1) w.heap.size (w.heap.size + 2) 5), (6, ckV (W1.heap.size + 1) w.heap.size (w.heap.size + 2) 6)] rfl (by simp [Act.eval, ckV, ckF, ckC]) (run_cks _ _ _ _)) ?_))
  have hLk := ((Blk.new W1 82 (lkCells g zhd (.slice none 0 0) (.slice none 0 0) (.slice none 0 0)).toArray).alloc (.cells #[.pointer (some ⟨W1.heap.size, 0, none⟩)] 80)).alloc (.cells (ckRow (W1.heap.size + 1) w.heap.size (w.heap.size + 2)) 85)
  have hvv := (Blk.new (W1.alloc (.cells (lkCells g zhd (.slice none 0 0) (.slice none 0 0) (.slice none 0 0)).toArray 82)) 80 #[.pointer (some ⟨W1.heap.size, 0, none⟩)]).alloc (.cells (ckRow (W1.heap.size + 1) w.heap.size (w.heap.size + 2)) 85)
  have hss := Blk.new ((W1.alloc (.cells (lkCells g zhd (.slice none 0 0) (.slice none 0 0) (.slice none 0 0)).toArray 82)).alloc (.cells #[.pointer (some ⟨W1.heap.size, 0, none⟩)] 80)) 85 (ckRow (W1.heap.size + 1) w.heap.size (w.heap.size + 2))
  rw [World.size_alloc] at hvv
  rw [World.size_alloc, World.size_alloc] at hss
  have hx0 := B1.size
  have hy2 := ((hA.alloc (.cells (lkCells g zhd (.slice none 0 0) (.slice none 0 0) (.slice none 0 0)).toArray 82)).alloc (.cells #[.pointer (some ⟨W1.heap.size, 0, none⟩)] 80)).alloc (.cells (ckRow (W1.heap.size + 1) w.heap.size (w.heap.size + 2)) 85)
  have hz2 := ((hC.alloc (.cells (lkCells g zhd (.slice none 0 0) (.slice none 0 0) (.slice none 0 0)).toArray 82)).alloc (.cells #[.pointer (some ⟨W1.heap.size, 0, none⟩)] 80)).alloc (.cells (ckRow (W1.heap.size + 1) w.heap.size (w.heap.size + 2)) 85)
  have hr2 := ((hD.alloc (.cells (lkCells g zhd (.slice none 0 0) (.slice none 0 0) (.slice none 0 0)).toArray 82)).alloc (.cells #[.pointer (some ⟨W1.heap.size, 0, none⟩)] 80)).alloc (.cells (ckRow (W1.heap.size + 1) w.heap.size (w.heap.size + 2)) 85)
  have B2 := ((B1.alloc hx0 (.cells (lkCells g zhd (.slice none 0 0) (.slice none 0 0) (.slice none 0 0)).toArray 82)).alloc (by simp; omega) (.cells #[.pointer (some ⟨W1.heap.size, 0, none⟩)] 80)).alloc (by simp; omega) (.cells (ckRow (W1.heap.size + 1) w.heap.size (w.heap.size + 2)) 85)
  generalize ((W1.alloc (.cells (lkCells g zhd (.slice none 0 0) (.slice none 0 0) (.slice none 0 0)).toArray 82)).alloc (.cells #[.pointer (some ⟨W1.heap.size, 0, none⟩)] 80)).alloc (.cells (ckRow (W1.heap.size + 1) w.heap.size (w.heap.size + 2)) 85) = W2 at *
  have hck := checks_any w (W1.heap.size + 1) w.heap.size (w.heap.size + 1 + 1) (w.heap.size + 1 + 1 + 1) (W1.heap.size + 1 + 1) W1.heap.size f l hl5 g c ⟨hx0, by omega, by have := HS1.out; omega, by have := HS1.out; omega, by have := HS1.out; omega, by omega⟩ ok hF hT W2
    ⟨⟨B2, hvv, hy2, hz2, hr2, hss⟩, fun _ => hLk, fun h => by omega⟩
  obtain ⟨E, hE⟩ : ∃ E, E = vErr l g c := ⟨_, rfl⟩
  rw [← hE] at hck
  have HE := Lib.hid hE
  clear hLk hvv hss hy2 hz2 hr2 B2 hA hB hC hD B1 hE hx0 hz hF hT
  refine Calls.mono hck ?_
  rintro e W3 ⟨rfl, hok, hst⟩
  have B3 := hst.bel
  have hr3 := hst.hr
  have hv3 := hst.hv
  have hbr : w.heap.size ≤ w.heap.size + 1 + 1 + 1 := by omega
  clear hst hck
  generalize w.heap.size + 1 + 1 + 1 = br at *
  generalize W1.heap.size + 1 = v at *
  generalize W1.heap.size = x at *
  by_cases h0 : E = 0
  · obtain ⟨A1, c1, A2, c2, A3, c3, q1, _, _, q4, _, _, q7, q8, q9⟩ := (hok h0).2.2 (by omega)
    have hV : Hid (vErr l g c = 0) := Lib.hid (by rw [← HE.out]; exact h0)
    obtain ⟨hd, _, _⟩ := gHd_ok l g
    obtain ⟨HD, hHD⟩ : ∃ H, gHd l g = H := ⟨_, rfl⟩
    obtain ⟨S1, hS1⟩ : ∃ S, Value.slice A1 (splA (gReg l g) (gOid g)).length c1 = S := ⟨_, rfl⟩
    obtain ⟨S2, hS2⟩ : ∃ S, Value.slice A2 (splB (gReg l g) (gOid g)).length c2 = S := ⟨_, rfl⟩
    obtain ⟨PL, hPL⟩ : ∃ n, (gPay l g).length = n := ⟨_, rfl⟩
    rw [hHD, hS1, hS2, hPL] at q1
    rw [hPL] at q4 q7
    rw [hHD] at hd
    have HHD := Lib.hid hHD
    have HPL := Lib.hid hPL
    have hk := hki.out
    have hL3 : Blk W3 x 82 (lkCells g HD S1 S2 (.slice A3 PL c3)).toArray := q1
    subst h0
    clear hok q1 hHD hS1 hS2 hPL
    go_wp2_with fail
    refine Flow.wp_region_flow (w.heap.size) [(15, fun b => b = br)] [(0, fun W => Blk W v 80 (#[.pointer (some ⟨x, 0, none⟩)])), (5, fun W => Blk W v 80 (#[.pointer (some ⟨x, 0, none⟩)])), (10, fun W => Blk W v 80 (#[.pointer (some ⟨x, 0, none⟩)])), (4, fun W => Blk W x 82 ((lkCells g HD S1 S2 (.slice A3 PL c3)).toArray)), (9, fun W => Blk W x 82 ((lkCells g HD S1 S2 (.slice A3 PL c3)).toArray)), (13, fun W => Blk W x 82 ((lkCells g HD S1 S2 (.slice A3 PL c3)).toArray)), (15, fun W => Blk W br 41 (vdz)), (16, fun W => Rd W W.heap.size 1 A3 PL (bcells (gPay l g))), (16, fun W => IsU8 W A3)] (by kernel_rfl) (by kernel_rfl) B3.drew.size (Flow.nz_cons (by rintro b rfl; exact hbr) Flow.nz_nil) (Flow.facts_cons (hv3.drew) (Flow.kept_blk id) (Flow.fz_cons (Flow.no_follow (by kernel_rfl)) Flow.fz_nil) (Flow.facts_cons (hv3.drew) (Flow.kept_blk id) (Flow.fz_cons (Flow.no_follow (by kernel_rfl)) Flow.fz_nil) (Flow.facts_cons (hv3.drew) (Flow.kept_blk id) (Flow.fz_cons (Flow.no_follow (by kernel_rfl)) Flow.fz_nil) (Flow.facts_cons (hL3.drew) (Flow.kept_blk id) (Flow.fz_cons (Flow.no_follow (by kernel_rfl)) Flow.fz_nil) (Flow.facts_cons (hL3.drew) (Flow.kept_blk id) (Flow.fz_cons (Flow.no_follow (by kernel_rfl)) Flow.fz_nil) (Flow.facts_cons (hL3.drew) (Flow.kept_blk id) (Flow.fz_cons (Flow.no_follow (by kernel_rfl)) Flow.fz_nil) (Flow.facts_cons (hr3.drew) (Flow.kept_blk id) (Flow.fz_cons (Flow.no_follow (by kernel_rfl)) Flow.fz_nil) (Flow.facts_cons (q4.drew) (fun _ _ c h => h.ext c.ext) (Flow.fz_cons (fun _ => fun _ _ c h => rd_chgX h c q8) Flow.fz_nil) (Flow.facts_cons (q9) (fun _ _ c h => h.below c.ext) (Flow.fz_cons (fun _ => fun _ _ c h => isU8_chgX h c q8) Flow.fz_nil) Flow.facts_nil))))))))) ?_
    refine Flow.pass_val (.pointer (some ⟨x, 0, none⟩)) (Flow.met_none rfl) (fun a W hH => ?_) ?_
    · have e0 := Flow.see_old 7 hH.sees (by kernel_rfl) (by kernel_rfl) rfl
      have fa0 : (fun W => Blk W v 80 (#[.pointer (some ⟨x, 0, none⟩)])) W := hH.fact _ (List.mem_of_getElem? (i := 0) rfl) rfl
      have cc : World.cell? W ⟨v, 0, none⟩ = some (.pointer (some ⟨x, 0, none⟩)) := (fa0.cell 0).trans rfl; go_simp; first | done | rfl
    refine Flow.pass_val (.pointer (some ⟨x, 0, none⟩)) (Flow.met_none rfl) (fun a W hH => ?_) ?_
    · have e0 := Flow.see_new 25 0 hH.sees (by kernel_rfl) (by kernel_rfl) rfl rfl
      go_simp; first | done | rfl
    refine Flow.pass_val (.pointer (some ⟨x, 79, none⟩)) (Flow.met_none rfl) (fun a W hH => ?_) ?_
    · have e0 := Flow.see_new 26 1 hH.sees (by kernel_rfl) (by kernel_rfl) rfl rfl
      go_simp; first | done | rfl
    refine Flow.pass_val (.pointer (some ⟨x, 79, none⟩)) (Flow.met_none rfl) (fun a W hH => ?_) ?_
    · have e0 := Flow.see_new 27 2 hH.sees (by kernel_rfl) (by kernel_rfl) rfl rfl
      go_simp; first | done | rfl
    refine Flow.pass_val (.int .u32 (HD.ver : Int)) (Flow.met_none rfl) (fun a W hH => ?_) ?_
    · have e0 := Flow.see_new 28 3 hH.sees (by kernel_rfl) (by kernel_rfl) rfl rfl
      have fa3 : (fun W => Blk W x 82 ((lkCells g HD S1 S2 (.slice A3 PL c3)).toArray)) W := hH.fact _ (List.mem_of_getElem? (i := 3) rfl) rfl
      have cc := Lk.ver (fa3 : Lk W x g HD S1 S2 (.slice A3 PL c3)) hk; go_simp; first | done | rfl
    refine Flow.pass_val (.pointer (some ⟨x, 0, none⟩)) (Flow.met_none rfl) (fun a W hH => ?_) ?_
    · have e0 := Flow.see_old 7 hH.sees (by kernel_rfl) (by kernel_rfl) rfl
      have fa1 : (fun W => Blk W v 80 (#[.pointer (some ⟨x, 0, none⟩)])) W := hH.fact _ (List.mem_of_getElem? (i := 1) rfl) rfl
      have cc : World.cell? W ⟨v, 0, none⟩ = some (.pointer (some ⟨x, 0, none⟩)) := (fa1.cell 0).trans rfl; go_simp; first | done | rfl
    refine Flow.pass_val (.pointer (some ⟨x, 0, none⟩)) (Flow.met_none rfl) (fun a W hH => ?_) ?_
    · have e0 := Flow.see_new 30 5 hH.sees (by kernel_rfl) (by kernel_rfl) rfl rfl
      go_simp; first | done | rfl
    refine Flow.pass_val (.pointer (some ⟨x, 79, none⟩)) (Flow.met_none rfl) (fun a W hH => ?_) ?_
    · have e0 := Flow.see_new 31 6 hH.sees (by kernel_rfl) (by kernel_rfl) rfl rfl
      go_simp; first | done | rfl
    refine Flow.pass_val (.pointer (some ⟨x, 82, none⟩)) (Flow.met_none rfl) (fun a W hH => ?_) ?_
    · have e0 := Flow.see_new 32 7 hH.sees (by kernel_rfl) (by kernel_rfl) rfl rfl
      go_simp; first | done | rfl
    refine Flow.pass_val (.agg (bcells HD.dig).toArray) (Flow.met_none rfl) (fun a W hH => ?_) ?_
    · have e0 := Flow.see_new 33 8 hH.sees (by kernel_rfl) (by kernel_rfl) rfl rfl
      have fa4 : (fun W => Blk W x 82 ((lkCells g HD S1 S2 (.slice A3 PL c3)).toArray)) W := hH.fact _ (List.mem_of_getElem? (i := 4) rfl) rfl
      exact reg_loadRng 39 _ rfl e0 (Lk.dig (fa4 : Lk W x g HD S1 S2 (.slice A3 PL c3)) hk hd) Tryz.underlying39 rfl (by rw [bcells_length, hd]; exact infNode)
    refine Flow.pass_val (.pointer (some ⟨x, 0, none⟩)) (Flow.met_none rfl) (fun a W hH => ?_) ?_
    · have e0 := Flow.see_old 7 hH.sees (by kernel_rfl) (by kernel_rfl) rfl
      have fa2 : (fun W => Blk W v 80 (#[.pointer (some ⟨x, 0, none⟩)])) W := hH.fact _ (List.mem_of_getElem? (i := 2) rfl) rfl
      have cc : World.cell? W ⟨v, 0, none⟩ = some (.pointer (some ⟨x, 0, none⟩)) := (fa2.cell 0).trans rfl; go_simp; first | done | rfl
    refine Flow.pass_val (.pointer (some ⟨x, 0, none⟩)) (Flow.met_none rfl) (fun a W hH => ?_) ?_
    · have e0 := Flow.see_new 35 10 hH.sees (by kernel_rfl) (by kernel_rfl) rfl rfl
      go_simp; first | done | rfl
    refine Flow.pass_val (.pointer (some ⟨x, 116, none⟩)) (Flow.met_none rfl) (fun a W hH => ?_) ?_
    · have e0 := Flow.see_new 36 11 hH.sees (by kernel_rfl) (by kernel_rfl) rfl rfl
      go_simp; first | done | rfl
    refine Flow.pass_val (.slice A3 PL c3) (Flow.met_none rfl) (fun a W hH => ?_) ?_
    · have e0 := Flow.see_new 37 12 hH.sees (by kernel_rfl) (by kernel_rfl) rfl rfl
      have fa5 : (fun W => Blk W x 82 ((lkCells g HD S1 S2 (.slice A3 PL c3)).toArray)) W := hH.fact _ (List.mem_of_getElem? (i := 5) rfl) rfl
      have cc := Lk.s3 (fa5 : Lk W x g HD S1 S2 (.slice A3 PL c3)) hk hd; go_simp; first | done | rfl
    refine Flow.pass_val (.agg (vdCells 0 HD.ver HD.dig A3 PL c3).toArray) (Flow.met_none rfl) (fun a W hH => ?_) ?_
    · have e0 := Flow.see_new 29 4 hH.sees (by kernel_rfl) (by kernel_rfl) rfl rfl
      have e1 := Flow.see_new 34 9 hH.sees (by kernel_rfl) (by kernel_rfl) rfl rfl
      have e2 := Flow.see_new 38 13 hH.sees (by kernel_rfl) (by kernel_rfl) rfl rfl
      exact Flow.reg_build #[(1, .int .u32 (HD.ver : Int)), (2, .agg (bcells HD.dig).toArray), (3, .slice A3 PL c3)] rfl (by simp [Act.eval, e0, e1, e2]) (run_vdO W _ _ _ _ _ hd)
    refine Flow.pass_list (fun _ W => Blk W br 41 (vdCells 0 HD.ver HD.dig A3 PL c3).toArray) (Flow.kept_of (fun _ _ _ c h => h.chg c id) (Flow.kz_cons (Flow.no_follow (by kernel_rfl)) Flow.kz_nil)) (Flow.met_none rfl) (fun a W hH => ?_) ?_
    · have e0 := Flow.see_old 6 hH.sees (by kernel_rfl) (by kernel_rfl) rfl
      have e1 := Flow.see_new 39 14 hH.sees (by kernel_rfl) (by kernel_rfl) rfl rfl
      have fa6 : (fun W => Blk W br 41 (vdz)) W := hH.fact _ (List.mem_of_getElem? (i := 6) rfl) rfl
      refine wpList_storeAll W rfl 41 _ _ rfl br 41 _ (vdCells 0 HD.ver HD.dig A3 PL c3).toArray fa6 (by simpa [Act.eval] using e0) (by simpa [Act.eval] using e1) (by rw [List.size_toArray, vd_length _ _ _ _ _ _ hd]; rfl) (by rw [List.size_toArray, vd_length _ _ _ _ _ _ hd]; exact inf_vd) (vd_one _ _ _ _ _ _) ?_
      intro W2 h2 hg _
      exact Flow.qq_nil ⟨_, rfl, Chg.grown hg (by rintro k h; cases h; rfl), h2⟩
    refine Flow.pass_end [none, none, none, none, none, none, none, none, none, none, none, none, none, none, none, none, none, none, none, none, none, none, none, none, none, some 25, some 26, some 27, some 28, some 29, some 30, some 31, some 32, some 33, some 34, some 35, some 36, some 37, some 38, some 39] (by kernel_rfl) ?_
    intro f2 gg w9 hB hfa hT2 hfg
    have hb9 : Blk w9 br 41 (vdCells 0 HD.ver HD.dig A3 PL c3).toArray := hT2 15 _ (by kernel_rfl) rfl
    have B9 := B3.drew.trans hB
    have F7 : Rd w9 w9.heap.size 1 A3 PL (bcells (gPay l g)) := hfa _ (List.mem_of_getElem? (i := 7) rfl) (Nat.le_refl _)
    have F8 : IsU8 w9 A3 := hfa _ (List.mem_of_getElem? (i := 8) rfl) (Nat.le_refl _)
    clear hT2 hfg hfa
    simp only [Reg.sel]
    go_wp2
    refine bodyPost_ret (results_cell1 rfl _ _ br _ _ _ _ rfl hb9 Tryz.underlying41 rfl (by rw [List.size_toArray, vd_length _ _ _ _ _ _ hd]; exact inf_vd)) rfl ?_
    have e1 : vVer l g c = HD.ver := by rw [vVer, if_pos hV.out, HHD.out]
    have e2 : vDig l g c = HD.dig := by rw [vDig, if_pos hV.out, HHD.out]
    have e3 : vPay l g c = gPay l g := by rw [vPay, if_pos hV.out]
    unfold CkRetU
    rw [e1, e2, e3, hV.out, HPL.out]
    exact ⟨A3, c3, rfl, q7, F7, B9, F8⟩
  · have hV : Hid (¬ vErr l g c = 0) := Lib.hid (by rw [← HE.out]; exact h0)
    have hne : (E != 0) = true := by simpa using h0
    clear h0 hok hv3
    go_wp2_with (first
      | ((with_reducible refine at_build 41 ?_); refine wpList_buildV _ rfl #[(0, .int .i64 E)] rfl (by simp [Act.eval]) (run_vdE _ E) ?_)
      | ((with_reducible refine at_store 41 ?_); refine wpList_storeAll W3 rfl 41 _ _ rfl br 41 vdz (vdCells E 0 z32 none 0 0).toArray hr3 rfl rfl rfl inf_vd (vd_one _ _ _ _ _ _) ?_; intro W8 hb8 hg8 hs8))
    refine bodyPost_ret (results_cell1 rfl _ _ br _ _ _ _ rfl hb8 Tryz.underlying41 rfl inf_vd) rfl ?_
    have e1 : vVer l g c = 0 := by rw [vVer, if_neg hV.out]
    have e2 : vDig l g c = z32 := by rw [vDig, if_neg hV.out]
    have e3 : vPay l g c = [] := by rw [vPay, if_neg hV.out]
    unfold CkRetU
    rw [e1, e2, e3, ← HE.out]
    exact ⟨none, 0, rfl, ⟨Nat.le_refl _, Nat.zero_le _⟩, Rd.nil _ _ _ _, grown_below B3 hg8 B3.size hbr, IsU8.none _⟩
theorem lcheck_any (f : Nat) (l : List UInt8) (hl5 : l.length ≤ 1000000) (g : Gu) (c : Ctr) (w : World) (ok : g.ok w w.heap.size) (hF : FL w f l) (hT : Tabs w) :
    Calls Tryz.prog 10 #[.pointer (some ⟨f, 0, none⟩), .agg g.cells.toArray, .agg c.cells] w (CkRet w l g c) :=
  (lcheck_new f l hl5 g c w ok hF hT).mono fun _ _ ⟨A, k, h1, h2, h3, h4, _⟩ => ⟨A, k, h1, h2.1, h3, h4⟩
end Go.Proofs.YtipdmhppadapkaaGreatDoor
