/-
  Walks: load.Check where the first check fails (no hash is reached); awake of the law's package.
-/
import Derived.Test.YtipdmhppadapkaaGreatDoorLdK
namespace Go.Proofs.YtipdmhppadapkaaGreatDoor
open Go.RowKit Sha

theorem checks_bad (w0 : World) (v y z br bs x f : Nat) (l : List UInt8) (hl5 : l.length ≤ 1000000) (g : Gu) (c : Ctr) (n : LNe w0 v y z br bs x) (ok : g.ok w0 w0.heap.size) (hF : FL w0 f l) (hbad : errAt l g c 0 ≠ 0) (w : World) (h0 : CkS w0 v y z br bs x f l g c 0 w) :
    Calls Tryz.prog 27 #[.slice (some ⟨bs, 0, none⟩) 7 7] w fun e w' => e = .returned (.int .i64 (errAt l g c 0)) ∧ LSt w0 v y z br bs x f c w' := by
  have hv : firstE (errAt l g c) 7 = errAt l g c 0 := firstE_bad (k := 1) (by rw [firstE, if_neg (by simp [firstE])]; exact hbad) 7 (by omega) |>.trans (by rw [firstE, if_neg (by simp [firstE])])
  have h := asked_any 7 (by omega) bs ckF (ckC v y z) (errAt l g c) (fun k W => k = 0 ∧ CkS w0 v y z br bs x f l g c 0 W) (LSt w0 v y z br bs x f c) w ck_fn (by
    intro k W h j hj
    rw [h.2.1.hs.cell]
    match j, hj with
    | 0, _ => rfl
    | 1, _ => rfl
    | 2, _ => rfl
    | 3, _ => rfl
    | 4, _ => rfl
    | 5, _ => rfl
    | 6, _ => rfl) (fun _ _ h => h.2.1) (by
    intro k hk W h _
    obtain ⟨rfl, h⟩ := h
    have ok2 := ok.below h.1.bel h.1.bel.size
    refine (c1_any v x y f l hl5 g W ok2 h.1.hv h.1.hy (h.2.1 rfl) (hF.below h.1.bel)).mono ?_
    rintro e W' ⟨h1, h2, h3⟩
    exact ⟨h1, fun he => absurd he hbad, h.1.chg n h2⟩) ⟨rfl, h0⟩
  rw [hv] at h
  exact h.mono fun e w' ⟨h1, _, h2⟩ => ⟨h1, h2⟩

set_option maxRecDepth 100000 in
set_option maxHeartbeats 2000000 in
theorem lcheck_bad (f : Nat) (l : List UInt8) (hl5 : l.length ≤ 1000000) (g : Gu) (c : Ctr) (hbad : errAt l g c 0 ≠ 0) (w : World) (ok : g.ok w w.heap.size) (hF : FL w f l) :
    Calls Tryz.prog 10 #[.pointer (some ⟨f, 0, none⟩), .agg g.cells.toArray, .agg c.cells] w fun e w' => e = .returned (.agg (vdCells (errAt l g c 0) 0 z32 none 0 0).toArray) ∧ Below w.heap.size w w' := by
  have hz := zeroVd
  have hA := blk4a w (.cells g.cells.toArray 31) (.cells c.cells 34) (.cells vdz 41) 43 #[.pointer (some ⟨f, 0, none⟩)]
  have hB := blk4b w (.cells #[.pointer (some ⟨f, 0, none⟩)] 43) (.cells c.cells 34) (.cells vdz 41) 31 g.cells.toArray
  have hC := blk4c w (.cells #[.pointer (some ⟨f, 0, none⟩)] 43) (.cells g.cells.toArray 31) (.cells vdz 41) 34 c.cells
  have hD := blk4d w (.cells #[.pointer (some ⟨f, 0, none⟩)] 43) (.cells g.cells.toArray 31) (.cells c.cells 34) 41 vdz
  have B1 : Below w.heap.size w ((((w.alloc (.cells #[.pointer (some ⟨f, 0, none⟩)] 43)).alloc (.cells g.cells.toArray 31)).alloc (.cells c.cells 34)).alloc (.cells vdz 41)) := ((((Below.refl _ _).alloc (Nat.le_refl _) _).alloc (by simp) _).alloc (by simp; omega) _).alloc (by simp; omega) _
  have hs1 : ((((w.alloc (.cells #[.pointer (some ⟨f, 0, none⟩)] 43)).alloc (.cells g.cells.toArray 31)).alloc (.cells c.cells 34)).alloc (.cells vdz 41)).heap.size = w.heap.size + 4 := by simp
  have hk := ok.key
  have hki := Lib.hid hk
  go_enter Tryz.func10, Tryz.ntmps10
  have hk7 := hki
  clear hk
  go_wp2_with (first
    | ((with_reducible refine at_load 31 ?_); refine wpList_loadAllW _ rfl 31 _ rfl (w.heap.size + 1) 31 g.cells.toArray hB _ rfl Tryz.underlying31 rfl (by rw [List.size_toArray, g.cells_length hki.out]; exact inf_gu) ?_; generalize (((w.alloc (.cells #[.pointer (some ⟨f, 0, none⟩)] 43)).alloc (.cells g.cells.toArray 31)).alloc (.cells c.cells 34)).alloc (.cells vdz 41) = W1 at *; have HS1 := Lib.hid hs1; clear hs1)
    | ((with_reducible refine at_build 82 ?_); refine wpList_buildV _ rfl #[(0, .agg g.cells.toArray)] rfl (by simp [Act.eval, Act.put]) (run_look _ g hki.out) ?_)
    | ((with_reducible refine at_buildSlice 143 ?_); refine wpList_runV rfl (Flow.reg_buildSlice #[(0, ckV (W1.heap.size + 1) w.heap.size (w.heap.size + 2) 0), (1, ckV (W1.heap.size + 1) w.heap.size (w.heap.size + 2) 1), (2, ckV (W1.heap.size + 1) w.heap.size (w.heap.size + 2) 2), (3, ckV (W1.heap.size + 1) w.heap.size (w.heap.size + 2) 3), (4, ckV (W1.heap.size + 1) w.heap.size (w.heap.size + 2) 4), (5, ckV (W1.heap.size + 1) w.heap.size (w.heap.size + 2) 5), (6, ckV (W1.heap.size + 1) w.heap.size (w.heap.size + 2) 6)] rfl (by simp [Act.eval, ckV, ckF, ckC]) (run_cks _ _ _ _)) ?_))
  have hLk := ((Blk.new W1 82 (lkCells g zhd (.slice none 0 0) (.slice none 0 0) (.slice none 0 0)).toArray).alloc (.cells #[.pointer (some ⟨W1.heap.size, 0, none⟩)] 80)).alloc (.cells (ckRow (W1.heap.size + 1) w.heap.size (w.heap.size + 2)) 85)
  have hvv := (Blk.new (W1.alloc (.cells (lkCells g zhd (.slice none 0 0) (.slice none 0 0) (.slice none 0 0)).toArray 82)) 80 #[.pointer (some ⟨W1.heap.size, 0, none⟩)]).alloc (.cells (ckRow (W1.heap.size + 1) w.heap.size (w.heap.size + 2)) 85)
  have hss := Blk.new ((W1.alloc (.cells (lkCells g zhd (.slice none 0 0) (.slice none 0 0) (.slice none 0 0)).toArray 82)).alloc (.cells #[.pointer (some ⟨W1.heap.size, 0, none⟩)] 80)) 85 (ckRow (W1.heap.size + 1) w.heap.size (w.heap.size + 2))
  rw [World.size_alloc] at hvv
  rw [World.size_alloc, World.size_alloc] at hss
  have hx0 := B1.size
  have hy2 := ((hA.alloc (.cells (lkCells g zhd (.slice none 0 0) (.slice none 0 0) (.slice none 0 0)).toArray 82)).alloc (.cells #[.pointer (some ⟨W1.heap.size, 0, none⟩)] 80)).alloc (.cells (ckRow (W1.heap.size + 1) w.heap.size (w.heap.size + 2)) 85)
  have hz2 := ((hC.alloc (.cells (lkCells g zhd (.slice none 0 0) (.slice none 0 0) (.slice none 0 0)).toArray 82)).alloc (.cells #[.pointer (some ⟨W1.heap.size, 0, none⟩)] 80)).alloc (.cells (ckRow (W1.heap.size + 1) w.heap.size (w.heap.size + 2)) 85)
  have hr2 := ((hD.alloc (.cells (lkCells g zhd (.slice none 0 0) (.slice none 0 0) (.slice none 0 0)).toArray 82)).alloc (.cells #[.pointer (some ⟨W1.heap.size, 0, none⟩)] 80)).alloc (.cells (ckRow (W1.heap.size + 1) w.heap.size (w.heap.size + 2)) 85)
  have B2 := ((B1.alloc hx0 (.cells (lkCells g zhd (.slice none 0 0) (.slice none 0 0) (.slice none 0 0)).toArray 82)).alloc (by simp; omega) (.cells #[.pointer (some ⟨W1.heap.size, 0, none⟩)] 80)).alloc (by simp; omega) (.cells (ckRow (W1.heap.size + 1) w.heap.size (w.heap.size + 2)) 85)
  generalize ((W1.alloc (.cells (lkCells g zhd (.slice none 0 0) (.slice none 0 0) (.slice none 0 0)).toArray 82)).alloc (.cells #[.pointer (some ⟨W1.heap.size, 0, none⟩)] 80)).alloc (.cells (ckRow (W1.heap.size + 1) w.heap.size (w.heap.size + 2)) 85) = W2 at *
  have hck := checks_bad w (W1.heap.size + 1) w.heap.size (w.heap.size + 1 + 1) (w.heap.size + 1 + 1 + 1) (W1.heap.size + 1 + 1) W1.heap.size f l hl5 g c ⟨hx0, by omega, by have := HS1.out; omega, by have := HS1.out; omega, by have := HS1.out; omega, by omega⟩ ok hF hbad W2
    ⟨⟨B2, hvv, hy2, hz2, hr2, hss⟩, fun _ => hLk, fun h => by omega⟩
  obtain ⟨E, hE⟩ : ∃ E, E = errAt l g c 0 := ⟨_, rfl⟩
  rw [← hE] at hck hbad
  have HE := Lib.hid hE
  clear hLk hvv hss hy2 hz2 hr2 B2 hA hB hC hD B1 hE hx0 hz hF
  refine Calls.mono hck ?_
  rintro e W3 ⟨rfl, hst⟩
  have B3 := hst.bel
  have hr3 := hst.hr
  have hv3 := hst.hv
  have hbr : w.heap.size ≤ w.heap.size + 1 + 1 + 1 := by omega
  clear hst hck
  generalize w.heap.size + 1 + 1 + 1 = br at *
  generalize W1.heap.size + 1 = v at *
  generalize W1.heap.size = x at *
  have hne : (E != 0) = true := by simpa using hbad
  clear hbad hv3
  go_wp2_with (first
    | ((with_reducible refine at_build 41 ?_); refine wpList_buildV _ rfl #[(0, .int .i64 E)] rfl (by simp [Act.eval]) (run_vdE _ E) ?_)
    | ((with_reducible refine at_store 41 ?_); refine wpList_storeAll W3 rfl 41 _ _ rfl br 41 vdz (vdCells E 0 z32 none 0 0).toArray hr3 rfl rfl rfl inf_vd (vd_one _ _ _ _ _ _) ?_; intro W8 hb8 hg8 hs8))
  refine bodyPost_ret (results_cell1 rfl _ _ br _ _ _ _ rfl hb8 Tryz.underlying41 rfl inf_vd) rfl ?_
  exact ⟨by rw [← HE.out], grown_below B3 hg8 B3.size hbr⟩

set_option maxRecDepth 100000 in
set_option maxHeartbeats 2000000 in
theorem awakeP (w : World) : Calls Tryz.prog 7 #[] w fun e w' => e = .returned (.bool true) ∧ Below w.heap.size w w' := by
  have hb := burn_any none 0 0 [] (by omega) w (Rd.nil _ _ _ _)
  have hE : errAt [] ga ⟨0, 0⟩ 0 = 151 := by show e0 [] ga = 151; simp [e0, getE, ga]
  obtain ⟨GC, hGC⟩ : ∃ X, ga.cells.toArray = X := ⟨_, rfl⟩
  obtain ⟨CC, hCC⟩ : ∃ X, (Ctr.mk 0 0).cells = X := ⟨_, rfl⟩
  have hg := run_ga
  have hc := run_ca
  have hck0 := fun W f hF => lcheck_bad f [] (by simp) ga ⟨0, 0⟩ (by rw [hE]; decide) W (ga_ok _ _) hF
  rw [hE, hGC, hCC] at hck0
  rw [hGC] at hg
  rw [hCC] at hc
  clear hGC hCC hE
  go_enter Tryz.func7, Tryz.ntmps7
  go_wp2_with fail
  refine Calls.mono hb ?_
  rintro e W1 ⟨f, rfl, _, hF, B1⟩
  have hck := hck0 W1 f hF
  clear hb hF hck0
  go_wp2_with (first
    | ((with_reducible refine at_build 31 ?_); refine wpList_buildV _ rfl #[(3, .int .u32 1)] rfl (by simp [Act.eval]) (hg _) ?_)
    | ((with_reducible refine at_build 34 ?_); refine wpList_buildV _ rfl #[] rfl (by simp) (hc _) ?_))
  refine Calls.mono hck ?_
  rintro e W2 ⟨rfl, hB2⟩
  have B2 := B1.trans (hB2.mono B1.size)
  clear hck hB2 B1
  have hfld := run_vd0 151 0 z32 none 0 0
  go_wp2_with fail
  go_ret
  exact ⟨rfl, B2⟩
end Go.Proofs.YtipdmhppadapkaaGreatDoor
