/-
  Parts: ShaE ShaK PrfA PrfB PrfC PrfD PrfE.
-/
import Derived.Test.YtipdmhppadapkaaGreatDoorBB
import Derived.StillTailTactics
import Derived.Deep.Cut
import Derived.Test.YtipdmhppadapkaaGreatDoorBA
import Derived.ArgAppend
/-
  Walk: portreeveref03.Block: the same block taken in.
-/
namespace Go.Proofs.YtipdmhppadapkaaGreatDoor
open Go.RowKit Sha

attribute [local go_sem] u_add3' u_add4' u_notm u_uc u_shl24 u_shl16 u_shl8 u_shr3 u_shr10 u_xor u_and u_or u_not u_add u_add' u_shr u_shl u_shl' rotr_alt

theorem run_kTab (w : World) (vs : Array (Nat × Value)) (h : vs = ((kTab.zipIdx).map fun x => (x.2, Value.int .u32 (u x.1))).toArray) : (Instr.build 167 vs).run Tryz.prog w = .ok (.agg (wcells kTab).toArray) w := by
  subst h; kernel_rfl
set_option maxRecDepth 100000 in
theorem rtable_any (w : World) : Calls Tryz.prog 89 #[] w fun e w' => e = .returned (.agg (wcells kTab).toArray) ∧ Below w.heap.size w w' := by
  have hz := zero64w
  go_enter Tryz.func89, Tryz.ntmps89
  have hb := Blk.new w 167 (zw 64)
  have hB0 : Below w.heap.size w (w.alloc (.cells (zw 64) 167)) := (Below.refl _ _).alloc (Nat.le_refl _) _
  go_wp2_with (first
    | ((with_reducible refine at_build 167 ?_); refine wpList_buildV _ rfl _ rfl rfl (run_kTab _ _ (by kernel_rfl)) ?_)
    | ((with_reducible refine at_store 167 ?_); refine wpList_storeAll _ rfl 167 _ _ rfl w.heap.size 167 _ (wcells kTab).toArray hb rfl rfl (by kernel_rfl) (by kernel_rfl) (fun v hv => wcells_one _ v (by simpa using hv)) ?_; intro w3 hb3 hg3 hs3))
  refine bodyPost_ret (results_cell_row rfl _ _ w.heap.size _ _ _ _ rfl hb3 Tryz.underlying167 rfl (by kernel_rfl)) rfl ⟨rfl, ?_⟩
  exact grown_below hB0 hg3 hB0.size (Nat.le_refl _)
theorem run_h0 (w : World) (vs : Array (Nat × Value)) (h : vs = ((h0.list.zipIdx).map fun x => (x.2, Value.int .u32 (u x.1))).toArray) : (Instr.build 110 vs).run Tryz.prog w = .ok (.agg (wcells h0.list).toArray) w := by
  subst h; kernel_rfl
def z8 : Array Value := rcells 8 []
theorem zero8w (w : World) : (zeroValue 110).run Tryz.prog w = .ok (.agg z8) w := by kernel_rfl
theorem rinit_any (w : World) : Calls Tryz.prog 50 #[] w fun e w' => e = .returned (.agg (wcells h0.list).toArray) ∧ Below w.heap.size w w' := by
  have hz := zero8w
  go_enter Tryz.func50, Tryz.ntmps50
  have hb := Blk.new w 110 z8
  have hB0 : Below w.heap.size w (w.alloc (.cells z8 110)) := (Below.refl _ _).alloc (Nat.le_refl _) _
  go_wp2_with (first
    | ((with_reducible refine at_build 110 ?_); refine wpList_buildV _ rfl _ rfl rfl (run_h0 _ _ (by kernel_rfl)) ?_)
    | ((with_reducible refine at_store 110 ?_); refine wpList_storeAll _ rfl 110 _ _ rfl w.heap.size 110 _ (wcells h0.list).toArray hb rfl rfl (by kernel_rfl) (by kernel_rfl) (fun v hv => wcells_one _ v (by simpa using hv)) ?_; intro w3 hb3 hg3 hs3))
  refine bodyPost_ret (results_cell_row rfl _ _ w.heap.size _ _ _ _ rfl hb3 Tryz.underlying110 rfl (by kernel_rfl)) rfl ⟨rfl, ?_⟩
  exact grown_below hB0 hg3 hB0.size (Nat.le_refl _)

/-- the blocks that the reference keeps while it takes a block in -/
structure RB (w : World) (b2 b4 b5 b6 : Nat) (v : V8) (cs : Array Value) (wr : World) : Prop where
  le2 : w.heap.size ≤ b2
  lt4 : b2 < b4
  lt5 : b4 < b5
  lt6 : b5 < b6
  H : Blk wr b2 110 (wcells v.list).toArray
  O : Blk wr b4 110 z8
  K : Blk wr b5 167 (wcells kTab).toArray
  M : Blk wr b6 167 cs
  B : Below w.heap.size w wr
namespace RB
variable {w wr : World} {b2 b4 b5 b6 : Nat} {v : V8} {cs : Array Value}
theorem le6 (h : RB w b2 b4 b5 b6 v cs wr) : w.heap.size ≤ b6 := by have := h.le2; have := h.lt4; have := h.lt5; have := h.lt6; omega
theorem drewN (h : RB w b2 b4 b5 b6 v cs wr) (n : Nat) : RB w b2 b4 b5 b6 v cs (wr.drewN n) := ⟨h.le2, h.lt4, h.lt5, h.lt6, h.H.drewN n, h.O.drewN n, h.K.drewN n, h.M.drewN n, below_drewN h.B n⟩
theorem drew (h : RB w b2 b4 b5 b6 v cs wr) : RB w b2 b4 b5 b6 v cs wr.drew := ⟨h.le2, h.lt4, h.lt5, h.lt6, h.H.drew, h.O.drew, h.K.drew, h.M.drew, h.B.drew⟩
theorem set (h : RB w b2 b4 b5 b6 v cs wr) (k : Nat) (x : Value) : RB w b2 b4 b5 b6 v (cs.setIfInBounds k x) (wr.setCell ⟨b6, k, none⟩ x) :=
  ⟨h.le2, h.lt4, h.lt5, h.lt6, h.H.far (by have := h.lt4; have := h.lt5; have := h.lt6; simp; omega) _, h.O.far (by have := h.lt5; have := h.lt6; simp; omega) _, h.K.far (by have := h.lt6; simp; omega) _, h.M.set_ k x, h.B.setCell (p := ⟨b6, k, none⟩) (by have := h.le6; simpa using this) x⟩
theorem chg (h : RB w b2 b4 b5 b6 v cs wr) {w' : World} {g : Nat} (c : Chg (fun b => b = g) wr w') (hg : b6 < g) : RB w b2 b4 b5 b6 v cs w' := by
  have l2 := h.le2
  have l4 := h.lt4
  have l5 := h.lt5
  have l6 := h.lt6
  exact ⟨l2, l4, l5, l6, h.H.chg c (show ¬ b2 = g by omega), h.O.chg c (show ¬ b4 = g by omega), h.K.chg c (show ¬ b5 = g by omega), h.M.chg c (show ¬ b6 = g by omega), h.B.trans (c.below (fun k e => by have e : k = g := e; omega) h.B.size)⟩
end RB
theorem v8_one (a b c d e f g h : W) : ∀ v ∈ (#[.int .u32 (u a), .int .u32 (u b), .int .u32 (u c), .int .u32 (u d), .int .u32 (u e), .int .u32 (u f), .int .u32 (u g), .int .u32 (u h)] : Array Value).toList, v.oneCell' = true :=
  wcells_one [a, b, c, d, e, f, g, h]
theorem w_set (l : List W) (k : Nat) (x : W) : (wcells l).toArray.setIfInBounds k (.int .u32 (u x)) = (wcells (l.set k x)).toArray := wcells_set l k x

set_option maxRecDepth 100000 in
set_option maxHeartbeats 4000000 in
theorem rblock_any (A : Option Addr) (c : Nat) (p : List UInt8) (hp' : p.length = 64) (v : V8) (w : World) (hR : Rd w w.heap.size 1 A 64 (bcells p)) :
    Calls Tryz.prog 51 #[.agg (wcells v.list).toArray, .slice A 64 c] w fun e w' => e = .returned (.agg (wcells (comp v p).list).toArray) ∧ Below w.heap.size w w' := by
  have hp := Lib.hid hp'
  clear hp'
  have hz := zero64w
  have hz8 := zero8w
  obtain ⟨hcs, hhcs⟩ : ∃ hcs, hcs = (wcells v.list).toArray := ⟨_, rfl⟩
  rw [← hhcs]
  have HH := Lib.hid hhcs
  clear hhcs
  go_enter Tryz.func51, Tryz.ntmps51
  go_wp2_with fail
  have h2 := (Blk.new w 110 hcs).alloc (.cells z8 110)
  have h4 := blk_new1 w (.cells hcs 110) 110 z8
  have hB0 : Below w.heap.size w ((w.alloc (.cells hcs 110)).alloc (.cells z8 110)) := ((Below.refl _ _).alloc (Nat.le_refl _) _).alloc (by simp) _
  have hs0 : ((w.alloc (.cells hcs 110)).alloc (.cells z8 110)).heap.size = w.heap.size + 2 := by simp
  generalize (w.alloc (.cells hcs 110)).alloc (.cells z8 110) = W0 at *
  refine (rtable_any W0).mono ?_
  rintro e W1 ⟨rfl, hB1⟩
  have h2 := h2.below hB1 h2.lt
  have h4 := h4.below hB1 h4.lt
  have hB := hB0.trans (hB1.mono hB0.size)
  have hs1 : w.heap.size + 2 ≤ W1.heap.size := by have := hB1.size; omega
  clear hB0 hB1
  have HS0 := Lib.hid hs0
  clear hs0
  go_wp2_with ((with_reducible refine at_store 167 ?_); refine wpList_storeAll _ rfl 167 _ _ rfl W1.heap.size 167 _ (wcells kTab).toArray (Blk.new W1 167 (zw 64)) rfl rfl (by kernel_rfl) (by kernel_rfl) (fun v hv => wcells_one _ v (by simpa using hv)) ?_; intro w3 h5 hg3 hs3)
  have hg3' : Chg (fun b => b = W1.heap.size) W1 w3 := ((Chg.refl _ _).alloc _).trans (Chg.grown hg3 (by rintro j h; cases h; rfl))
  have h2 := (h2.chg hg3' (by omega)).alloc (.cells (zw 64) 167)
  have h4 := (h4.chg hg3' (by omega)).alloc (.cells (zw 64) 167)
  have h5 := h5.alloc (.cells (zw 64) 167)
  have h6 := Blk.new w3 167 (zw 64)
  have hs3' : w3.heap.size = W1.heap.size + 1 := by rw [hs3, World.size_alloc]
  have hBB : Below w.heap.size w (w3.alloc (.cells (zw 64) 167)) := (hB.trans (hg3'.below (n := w.heap.size) (by rintro b rfl; omega) (by omega))).alloc (by omega) _
  have hRB : RB w w.heap.size (w.heap.size + 1) W1.heap.size (W1.heap.size + 1) v (zw 64) (w3.alloc (.cells (zw 64) 167)) := ⟨Nat.le_refl _, by omega, by omega, by omega, by rw [← HH.out]; exact h2, h4, h5, by rw [← hs3']; exact h6, hBB⟩
  obtain ⟨b2, hb2⟩ : ∃ b, b = w.heap.size := ⟨_, rfl⟩
  obtain ⟨b4, hb4⟩ : ∃ b, b = w.heap.size + 1 := ⟨_, rfl⟩
  rw [← hb4] at hRB ⊢
  generalize W1.heap.size = b5 at *
  generalize b5 + 1 = b6 at *
  generalize w3.alloc (.cells (zw 64) 167) = W4 at *
  clear h2 h4 h5 h6 hBB hB hg3' hg3 hs3 hs3' hs1 HS0 hz hz8 hb4 hb2
  go_wp2_with fail
  go_loopw [7] (fun i wr => ∃ k : Nat, k ≤ 16 ∧ i = .int .i64 k ∧ RB w w.heap.size b4 b5 b6 v (rcells 64 (sched p k)) wr) (fun i _ => 16 - (intOf i).toNat)
  case atStart => exact ⟨0, by omega, rfl, hRB⟩
  case round =>
    clear hRB
    obtain ⟨k, hk16, rfl, hR0⟩ := hrel
    by_cases hlt : k < 16
    · --<1
      obtain ⟨b, off, rfl, hab, hcs'⟩ := (hR.below hR0.B).range (by omega)
      have q0 := hcs' (4 * k) _ (bcells_get p _ (by rw [hp.out]; omega))
      have q1 := hcs' (4 * k + 1) _ (bcells_get p _ (by rw [hp.out]; omega))
      have q2 := hcs' (4 * k + 2) _ (bcells_get p _ (by rw [hp.out]; omega))
      have q3 := hcs' (4 * k + 3) _ (bcells_get p _ (by rw [hp.out]; omega))
      clear hcs'
      have l0 : 4 * (k : Int) < (64 : Int) := by omega
      have g0 : 0 ≤ 4 * (k : Int) := by omega
      have t0 : (4 * (k : Int)).toNat = 4 * k := by omega
      have l1 : 4 * (k : Int) + 1 < (64 : Int) := by omega
      have g1 : 0 ≤ 4 * (k : Int) + 1 := by omega
      have t1 : (4 * (k : Int) + 1).toNat = 4 * k + 1 := by omega
      have l2 : 4 * (k : Int) + 2 < (64 : Int) := by omega
      have g2 : 0 ≤ 4 * (k : Int) + 2 := by omega
      have t2 : (4 * (k : Int) + 2).toNat = 4 * k + 2 := by omega
      have l3 : 4 * (k : Int) + 3 < (64 : Int) := by omega
      have g3 : 0 ≤ 4 * (k : Int) + 3 := by omega
      have t3 : (4 * (k : Int) + 3).toNat = 4 * k + 3 := by omega
      have e0 : IntKind.i64.wrap (4 * (k : Int)) = 4 * (k : Int) := IntWalk.i64_in _ (by omega)
      have e1 : IntKind.i64.wrap (4 * (k : Int) + 1) = 4 * (k : Int) + 1 := IntWalk.i64_in _ (by omega)
      have e2 : IntKind.i64.wrap (4 * (k : Int) + 2) = 4 * (k : Int) + 2 := IntWalk.i64_in _ (by omega)
      have e3 : IntKind.i64.wrap (4 * (k : Int) + 3) = 4 * (k : Int) + 3 := IntWalk.i64_in _ (by omega)
      go_wp2_with fail
      go_still_tail 34, (by kernel_rfl)
      change wpList _ _ _ _ _ wr.drew
      clear e0 e1 e2 e3 l0 l1 l2 l3 g0 g1 g2 g3 t0 t1 t2 t3 q0 q1 q2 q3
      have hR2 := hR0.drew
      generalize wr.drew = W2 at *
      clear hR0
      have hl := sched_length p k
      obtain ⟨v1, hc1⟩ : ∃ v, W2.cell? ⟨b6, k, none⟩ = some v := by rw [hR2.M.cell]; exact rcells_any 64 _ k (by rw [hl]; omega) (by omega)
      have hf1 := hR2.M.frozen k
      go_wp2_with fail
      have hR3 := hR2.set k (.int .u32 (u (word p k)))
      have e5 : sched p (k + 1) = sched p k ++ [word p k] := by simp [sched, hlt]
      have e6 := rcells_set 64 (sched p k) (word p k) (by rw [hl]; omega)
      rw [hl] at e6
      rw [e6, ← e5] at hR3
      go_roundw
      case rel => exact ⟨k + 1, by omega, by go_num, hR3⟩
      case measure => simp [intOf]; omega
      --1>
    · obtain rfl : k = 16 := by omega
      clear hlt hk16
      go_wp2_with fail
      go_loopw [8] (fun i wr => ∃ k : Nat, 16 ≤ k ∧ k ≤ 64 ∧ i = .int .i64 k ∧ RB w w.heap.size b4 b5 b6 v (rcells 64 (sched p k)) wr) (fun i _ => 64 - (intOf i).toNat)
      case atStart => exact ⟨16, by omega, by omega, rfl, hR0⟩
      case round =>
        clear hR0
        obtain ⟨k, hk16, hk64, rfl, hR0⟩ := hrel
        by_cases hlt : k < 64
        · --<2
          obtain ⟨m, hm⟩ : ∃ m, k = m + 16 := ⟨k - 16, by omega⟩
          obtain ⟨L, hL⟩ : ∃ L, L = sched p k := ⟨_, rfl⟩
          have hLl : L.length = k := by rw [hL, sched_length]
          obtain ⟨x16, h16⟩ : ∃ x, x = L[m]?.getD 0 := ⟨_, rfl⟩
          obtain ⟨x15, h15⟩ : ∃ x, x = L[m + 1]?.getD 0 := ⟨_, rfl⟩
          obtain ⟨x7, h7⟩ : ∃ x, x = L[m + 9]?.getD 0 := ⟨_, rfl⟩
          obtain ⟨x2, h2⟩ : ∃ x, x = L[m + 14]?.getD 0 := ⟨_, rfl⟩
          have R16 := Lib.hid (rcells_get 64 L m (by omega))
          have r15 := rcells_get 64 L (m + 1) (by omega)
          have R7 := Lib.hid (rcells_get 64 L (m + 9) (by omega))
          have r2 := rcells_get 64 L (m + 14) (by omega)
          rw [← h16] at R16
          rw [← h15] at r15
          rw [← h7] at R7
          rw [← h2] at r2
          have hnx : sched p (k + 1) = L ++ [x16 + lo0 x15 + x7 + lo1 x2] := by
            show sched p k ++ _ = _
            rw [← hL, if_neg (by omega), nextW, hLl, h16, h15, h7, h2, hm]
            simp
          rw [← hL] at hR0
          have Hnx := Lib.hid hnx
          have HLl := Lib.hid hLl
          have Hm := Lib.hid hm
          have cc15 : wr.cell? ⟨b6, m + 1, none⟩ = some (.int .u32 (u x15)) := (hR0.M.cell _).trans r15
          have cc2 : wr.cell? ⟨b6, m + 14, none⟩ = some (.int .u32 (u x2)) := (hR0.M.cell _).trans r2
          have l1 : (m : Int) + 1 < (64 : Int) := by omega
          have g1 : 0 ≤ (m : Int) + 1 := by omega
          have t1 : ((m : Int) + 1).toNat = m + 1 := by omega
          have l2 : (m : Int) + 14 < (64 : Int) := by omega
          have g2 : 0 ≤ (m : Int) + 14 := by omega
          have t2 : ((m : Int) + 14).toNat = m + 14 := by omega
          have e1 : IntKind.i64.wrap ((k : Int) - 15) = (m : Int) + 1 := by rw [IntWalk.i64_in _ (by omega)]; omega
          have e2 : IntKind.i64.wrap ((k : Int) - 2) = (m : Int) + 14 := by rw [IntWalk.i64_in _ (by omega)]; omega
          clear h16 h15 h7 h2 hnx hL hLl hm r15 r2
          go_wp2_with fail
          go_quiet (fail)
          clear l1 g1 t1 l2 g2 t2 e1 e2 cc15 cc2
          go_wp2_with fail
          have hLl := HLl.out
          have hm := Hm.out
          have n2 : ¬ w.heap.size = b6 := by have := hR0.le2; have := hR0.lt4; have := hR0.lt5; have := hR0.lt6; omega
          have n4 : ¬ b4 = b6 := by have := hR0.lt5; have := hR0.lt6; omega
          have n5 : ¬ b5 = b6 := by have := hR0.lt6; omega
          refine Flow.wp_region_flow (w.heap.size) [(29, fun b => b = b6)] [(4, fun W => Blk W b6 167 (rcells 64 L)), (17, fun W => Blk W b6 167 (rcells 64 L)), (29, fun W => Blk W b6 167 (rcells 64 L)), (30, fun W => Blk W w.heap.size 110 ((wcells v.list).toArray)), (30, fun W => Blk W b4 110 (z8)), (30, fun W => Blk W b5 167 ((wcells kTab).toArray))] (by kernel_rfl) (by kernel_rfl) (hR0.drewN nq).drew.B.size (Flow.nz_cons (by rintro b rfl; exact hR0.le6) Flow.nz_nil) (Flow.facts_cons ((hR0.drewN nq).drew.M) (Flow.kept_blk id) (Flow.fz_cons (Flow.no_follow (by kernel_rfl)) Flow.fz_nil) (Flow.facts_cons ((hR0.drewN nq).drew.M) (Flow.kept_blk id) (Flow.fz_cons (Flow.no_follow (by kernel_rfl)) Flow.fz_nil) (Flow.facts_cons ((hR0.drewN nq).drew.M) (Flow.kept_blk id) (Flow.fz_cons (Flow.no_follow (by kernel_rfl)) Flow.fz_nil) (Flow.facts_cons ((hR0.drewN nq).drew.H) (Flow.kept_blk id) (Flow.fz_cons (fun _ => Flow.kept_blk (by first | assumption | (show ¬ _ = _; first | assumption | omega | (simp; omega)) | (show ¬ (_ ≤ _); omega))) Flow.fz_nil) (Flow.facts_cons ((hR0.drewN nq).drew.O) (Flow.kept_blk id) (Flow.fz_cons (fun _ => Flow.kept_blk (by first | assumption | (show ¬ _ = _; first | assumption | omega | (simp; omega)) | (show ¬ (_ ≤ _); omega))) Flow.fz_nil) (Flow.facts_cons ((hR0.drewN nq).drew.K) (Flow.kept_blk id) (Flow.fz_cons (fun _ => Flow.kept_blk (by first | assumption | (show ¬ _ = _; first | assumption | omega | (simp; omega)) | (show ¬ (_ ≤ _); omega))) Flow.fz_nil) Flow.facts_nil)))))) ?_
          refine Flow.pass_old 8 (Flow.met_none rfl) (.inl rfl) (by kernel_rfl) (by kernel_rfl) rfl ?_
          refine Flow.pass_old 8 (Flow.met_none rfl) (.inl rfl) (by kernel_rfl) (by kernel_rfl) rfl ?_
          refine Flow.pass_val (.int .i64 ((m : Int))) (Flow.met_none rfl) (fun a W hH => ?_) ?_
          · have e0 := Flow.see_new 71 1 hH.sees (by kernel_rfl) (by kernel_rfl) rfl rfl
            go_simp; first | done | rfl | (rw [IntWalk.i64_in _ (by omega)]; first | done | rfl | omega | (simp; done))
          refine Flow.pass_val (.pointer (some ⟨b6, m, none⟩)) (Flow.met_none rfl) (fun a W hH => ?_) ?_
          · have e0 := Flow.see_old 6 hH.sees (by kernel_rfl) (by kernel_rfl) rfl
            have e1 := Flow.see_new 72 2 hH.sees (by kernel_rfl) (by kernel_rfl) rfl rfl
            exact reg_ixA (s := 1) (m) _ rfl Tryz.underlying167 (by kernel_rfl) (by first | exact e0 | simpa [Act.eval] using e0 | (simp [Act.eval])) (by first | exact e1 | simpa [Act.eval] using e1 | (simp [Act.eval])) (by first | rfl | (simp; done) | omega) (by omega) (by first | rfl | omega)
          refine Flow.pass_val (.int .u32 (u (x16))) (Flow.met_none rfl) (fun a W hH => ?_) ?_
          · have e0 := Flow.see_new 73 3 hH.sees (by kernel_rfl) (by kernel_rfl) rfl rfl
            have fa0 : (fun W => Blk W b6 167 (rcells 64 L)) W := hH.fact _ (List.mem_of_getElem? (i := 0) rfl) rfl
            have cc := (fa0.cell _).trans R16.out; go_simp
          refine Flow.pass_old 9 (Flow.met_none rfl) (.inl rfl) (by kernel_rfl) (by kernel_rfl) rfl ?_
          refine Flow.pass_step (Reg.eqs (.int .u32 (u (rotr x15 7)))) (fun _ _ => Flow.kept_eqs _ _) (Flow.met_none rfl) (fun a W hH => ?_) ?_
          · have e0 := Flow.see_new 75 5 hH.sees (by kernel_rfl) (by kernel_rfl) rfl rfl
            refine Reg.wp_call rfl Tryz.func90 rfl (by kernel_rfl) (by simp [Act.eval, e0]) (rturn_any x15 7 (by omega) (by omega) W) ?_
            rintro e w' ⟨rfl, q, rfl⟩
            exact ⟨_, rfl, _, rfl, below_drewN (Below.refl _ _) q, rfl⟩
          refine Flow.pass_old 9 (Flow.met_none rfl) (.inl rfl) (by kernel_rfl) (by kernel_rfl) rfl ?_
          refine Flow.pass_step (Reg.eqs (.int .u32 (u (rotr x15 18)))) (fun _ _ => Flow.kept_eqs _ _) (Flow.met_none rfl) (fun a W hH => ?_) ?_
          · have e0 := Flow.see_new 77 7 hH.sees (by kernel_rfl) (by kernel_rfl) rfl rfl
            refine Reg.wp_call rfl Tryz.func90 rfl (by kernel_rfl) (by simp [Act.eval, e0]) (rturn_any x15 18 (by omega) (by omega) W) ?_
            rintro e w' ⟨rfl, q, rfl⟩
            exact ⟨_, rfl, _, rfl, below_drewN (Below.refl _ _) q, rfl⟩
          refine Flow.pass_val (.int .u32 (u (rotr x15 7 ^^^ rotr x15 18))) (Flow.met_none rfl) (fun a W hH => ?_) ?_
          · have e0 := Flow.see_new 76 6 hH.sees (by kernel_rfl) (by kernel_rfl) rfl rfl
            have e1 := Flow.see_new 78 8 hH.sees (by kernel_rfl) (by kernel_rfl) rfl rfl
            go_simp; first | done | rfl
          refine Flow.pass_old 9 (Flow.met_none rfl) (.inl rfl) (by kernel_rfl) (by kernel_rfl) rfl ?_
          refine Flow.pass_val (.int .u32 (u (x15 >>> 3))) (Flow.met_none rfl) (fun a W hH => ?_) ?_
          · have e0 := Flow.see_new 80 10 hH.sees (by kernel_rfl) (by kernel_rfl) rfl rfl
            go_simp; first | done | rfl
          refine Flow.pass_val (.int .u32 (u (lo0 x15))) (Flow.met_none rfl) (fun a W hH => ?_) ?_
          · have e0 := Flow.see_new 79 9 hH.sees (by kernel_rfl) (by kernel_rfl) rfl rfl
            have e1 := Flow.see_new 81 11 hH.sees (by kernel_rfl) (by kernel_rfl) rfl rfl
            go_simp; rfl
          refine Flow.pass_val (.int .u32 (u (x16 + lo0 x15))) (Flow.met_none rfl) (fun a W hH => ?_) ?_
          · have e0 := Flow.see_new 74 4 hH.sees (by kernel_rfl) (by kernel_rfl) rfl rfl
            have e1 := Flow.see_new 82 12 hH.sees (by kernel_rfl) (by kernel_rfl) rfl rfl
            go_simp; first | done | rfl
          refine Flow.pass_old 8 (Flow.met_none rfl) (.inl rfl) (by kernel_rfl) (by kernel_rfl) rfl ?_
          refine Flow.pass_val (.int .i64 (((m + 9 : Nat) : Int))) (Flow.met_none rfl) (fun a W hH => ?_) ?_
          · have e0 := Flow.see_new 84 14 hH.sees (by kernel_rfl) (by kernel_rfl) rfl rfl
            go_simp; first | done | rfl | (rw [IntWalk.i64_in _ (by omega)]; first | done | rfl | omega | (simp; done))
          refine Flow.pass_val (.pointer (some ⟨b6, m + 9, none⟩)) (Flow.met_none rfl) (fun a W hH => ?_) ?_
          · have e0 := Flow.see_old 6 hH.sees (by kernel_rfl) (by kernel_rfl) rfl
            have e1 := Flow.see_new 85 15 hH.sees (by kernel_rfl) (by kernel_rfl) rfl rfl
            exact reg_ixA (s := 1) (m + 9) _ rfl Tryz.underlying167 (by kernel_rfl) (by first | exact e0 | simpa [Act.eval] using e0 | (simp [Act.eval])) (by first | exact e1 | simpa [Act.eval] using e1 | (simp [Act.eval])) (by first | rfl | (simp; done) | omega) (by omega) (by first | rfl | omega)
          refine Flow.pass_val (.int .u32 (u (x7))) (Flow.met_none rfl) (fun a W hH => ?_) ?_
          · have e0 := Flow.see_new 86 16 hH.sees (by kernel_rfl) (by kernel_rfl) rfl rfl
            have fa1 : (fun W => Blk W b6 167 (rcells 64 L)) W := hH.fact _ (List.mem_of_getElem? (i := 1) rfl) rfl
            have cc := (fa1.cell _).trans R7.out; go_simp
          refine Flow.pass_val (.int .u32 (u (x16 + lo0 x15 + x7))) (Flow.met_none rfl) (fun a W hH => ?_) ?_
          · have e0 := Flow.see_new 83 13 hH.sees (by kernel_rfl) (by kernel_rfl) rfl rfl
            have e1 := Flow.see_new 87 17 hH.sees (by kernel_rfl) (by kernel_rfl) rfl rfl
            go_simp; first | done | rfl
          refine Flow.pass_old 10 (Flow.met_none rfl) (.inl rfl) (by kernel_rfl) (by kernel_rfl) rfl ?_
          refine Flow.pass_step (Reg.eqs (.int .u32 (u (rotr x2 17)))) (fun _ _ => Flow.kept_eqs _ _) (Flow.met_none rfl) (fun a W hH => ?_) ?_
          · have e0 := Flow.see_new 89 19 hH.sees (by kernel_rfl) (by kernel_rfl) rfl rfl
            refine Reg.wp_call rfl Tryz.func90 rfl (by kernel_rfl) (by simp [Act.eval, e0]) (rturn_any x2 17 (by omega) (by omega) W) ?_
            rintro e w' ⟨rfl, q, rfl⟩
            exact ⟨_, rfl, _, rfl, below_drewN (Below.refl _ _) q, rfl⟩
          refine Flow.pass_old 10 (Flow.met_none rfl) (.inl rfl) (by kernel_rfl) (by kernel_rfl) rfl ?_
          refine Flow.pass_step (Reg.eqs (.int .u32 (u (rotr x2 19)))) (fun _ _ => Flow.kept_eqs _ _) (Flow.met_none rfl) (fun a W hH => ?_) ?_
          · have e0 := Flow.see_new 91 21 hH.sees (by kernel_rfl) (by kernel_rfl) rfl rfl
            refine Reg.wp_call rfl Tryz.func90 rfl (by kernel_rfl) (by simp [Act.eval, e0]) (rturn_any x2 19 (by omega) (by omega) W) ?_
            rintro e w' ⟨rfl, q, rfl⟩
            exact ⟨_, rfl, _, rfl, below_drewN (Below.refl _ _) q, rfl⟩
          refine Flow.pass_val (.int .u32 (u (rotr x2 17 ^^^ rotr x2 19))) (Flow.met_none rfl) (fun a W hH => ?_) ?_
          · have e0 := Flow.see_new 90 20 hH.sees (by kernel_rfl) (by kernel_rfl) rfl rfl
            have e1 := Flow.see_new 92 22 hH.sees (by kernel_rfl) (by kernel_rfl) rfl rfl
            go_simp; first | done | rfl
          refine Flow.pass_old 10 (Flow.met_none rfl) (.inl rfl) (by kernel_rfl) (by kernel_rfl) rfl ?_
          refine Flow.pass_val (.int .u32 (u (x2 >>> 10))) (Flow.met_none rfl) (fun a W hH => ?_) ?_
          · have e0 := Flow.see_new 94 24 hH.sees (by kernel_rfl) (by kernel_rfl) rfl rfl
            go_simp; first | done | rfl
          refine Flow.pass_val (.int .u32 (u (lo1 x2))) (Flow.met_none rfl) (fun a W hH => ?_) ?_
          · have e0 := Flow.see_new 93 23 hH.sees (by kernel_rfl) (by kernel_rfl) rfl rfl
            have e1 := Flow.see_new 95 25 hH.sees (by kernel_rfl) (by kernel_rfl) rfl rfl
            go_simp; rfl
          refine Flow.pass_val (.int .u32 (u (x16 + lo0 x15 + x7 + lo1 x2))) (Flow.met_none rfl) (fun a W hH => ?_) ?_
          · have e0 := Flow.see_new 88 18 hH.sees (by kernel_rfl) (by kernel_rfl) rfl rfl
            have e1 := Flow.see_new 96 26 hH.sees (by kernel_rfl) (by kernel_rfl) rfl rfl
            go_simp; first | done | rfl
          refine Flow.pass_val (.pointer (some ⟨b6, k, none⟩)) (Flow.met_none rfl) (fun a W hH => ?_) ?_
          · have e0 := Flow.see_old 6 hH.sees (by kernel_rfl) (by kernel_rfl) rfl
            have e1 := Flow.see_new 70 0 hH.sees (by kernel_rfl) (by kernel_rfl) rfl rfl
            exact reg_ixA (s := 1) (k) _ rfl Tryz.underlying167 (by kernel_rfl) (by first | exact e0 | simpa [Act.eval] using e0 | (simp [Act.eval])) (by first | exact e1 | simpa [Act.eval] using e1 | (simp [Act.eval])) (by first | rfl | (simp; done) | omega) (by omega) (by first | rfl | omega)
          refine Flow.pass_gen (fun _ W => Blk W b6 167 ((rcells 64 L).setIfInBounds k (.int .u32 (u (x16 + lo0 x15 + x7 + lo1 x2))))) (Flow.kept_of (fun _ _ _ c h => h.chg c id) (Flow.kz_cons (Flow.no_follow (by kernel_rfl)) Flow.kz_nil)) (Flow.met_none rfl) (fun a W hH => ?_) ?_
          · have e0 := Flow.see_new 98 28 hH.sees (by kernel_rfl) (by kernel_rfl) rfl rfl
            have e1 := Flow.see_new 97 27 hH.sees (by kernel_rfl) (by kernel_rfl) rfl rfl
            have fa2 : (fun W => Blk W b6 167 (rcells 64 L)) W := hH.fact _ (List.mem_of_getElem? (i := 2) rfl) rfl
            refine wp_skip0 (reg_storeInt rfl (by kernel_rfl) fa2 e0 e1 (by rw [rcells_size 64 L (by omega)]; omega)) ?_
            exact ⟨_, rfl, Chg.grown (grown_setL _ _ _ _) (by rintro j h; cases h; rfl), fa2.set_ _ _⟩
          refine Flow.pass_end [none, none, none, none, none, none, none, none, none, none, none, none, none, none, none, none, none, none, none, none, none, none, none, none, none, none, none, none, none, none, none, none, none, none, none, none, none, none, none, none, none, none, none, none, none, none, none, none, none, none, none, none, none, none, none, none, none, none, none, none, none, none, none, none, none, none, none, none, none, none, some 70, some 71, some 72, some 73, some 74, some 75, some 76, some 77, some 78, some 79, some 80, some 81, some 82, some 83, some 84, some 85, some 86, some 87, some 88, some 89, some 90, some 91, some 92, some 93, some 94, some 95, some 96, some 97, some 98, none, none, none, none, none, none, none, none, none, none, none, none, none, none, none, none, none, none, none, none, none, none, none, none, none, none, none, none, none, none, none, none, none, none, none, none, none, none, none, none, none, none, none, none, none, none, none, none, none, none, none, none, none, none, none, none, none, none, none, none, none, none, none, none, none, none, none, none, none, none, none, none, none, none, none, none, none, none, none, none, none, none, none, none, none, none, none, none, none, none, none, none, none, none, none, none] (by kernel_rfl) ?_
          intro f gg w9 hB hfa hT hfg
          have F3 : (fun W => Blk W w.heap.size 110 ((wcells v.list).toArray)) w9 := hfa _ (List.mem_of_getElem? (i := 3) rfl) (Nat.le_refl _)
          have F4 : (fun W => Blk W b4 110 (z8)) w9 := hfa _ (List.mem_of_getElem? (i := 4) rfl) (Nat.le_refl _)
          have F5 : (fun W => Blk W b5 167 ((wcells kTab).toArray)) w9 := hfa _ (List.mem_of_getElem? (i := 5) rfl) (Nat.le_refl _)
          have h29 := hT 29 _ (by kernel_rfl) rfl
          have B9 := (hR0.drewN nq).drew.B.trans hB
          clear hfa hT hfg hB n2 n4 n5
          have e6 := rcells_set 64 L (x16 + lo0 x15 + x7 + lo1 x2) (by rw [hLl]; exact hlt)
          rw [hLl] at e6
          rw [e6, ← Hnx.out] at h29
          have hR3 : RB w w.heap.size b4 b5 b6 v (rcells 64 (sched p (k + 1))) w9 := ⟨hR0.le2, hR0.lt4, hR0.lt5, hR0.lt6, F3, F4, F5, h29, B9⟩
          clear e6 hLl hm F3 F4 F5 B9 hR0 h29
          simp only [Reg.sel]
          go_wp2
          go_roundw
          case rel => exact ⟨k + 1, by omega, by omega, by go_num, hR3⟩
          case measure => simp [intOf]; omega
          --2>
        · obtain rfl : k = 64 := by omega
          clear hlt hk16 hk64
          have hz8 := zero8w
          obtain ⟨SP, hSP⟩ : ∃ SP, SP = sched p 64 := ⟨_, rfl⟩
          have hl : SP.length = 64 := by rw [hSP, sched_length]
          rw [← hSP] at hR0
          have HSP := Lib.hid hSP
          have HL := Lib.hid hl
          clear hSP hl
          have hl6 : b6 < wr.heap.size := hR0.M.lt
          go_wp2_with (first
            | ((with_reducible refine at_load 110 ?_); refine wpList_loadAll _ rfl 110 _ rfl w.heap.size 110 (wcells v.list).toArray hR0.H _ rfl Tryz.underlying110 rfl (by kernel_rfl) ?_)
            | ((with_reducible refine at_store 110 ?_); refine wpList_storeAll _ rfl 110 _ _ rfl wr.heap.size 110 _ (wcells v.list).toArray (Blk.new wr 110 z8) rfl rfl (by kernel_rfl) (by kernel_rfl) (fun v hv => wcells_one _ v (by simpa using hv)) ?_; intro w5 h11 hg5 hs5))
          have hC5 : Chg (fun b => b = wr.heap.size) wr w5 := ((Chg.refl _ _).alloc _).trans (Chg.grown hg5 (by rintro j h; cases h; rfl))
          have hR5 := hR0.chg hC5 hl6
          generalize wr.heap.size = b11 at *
          clear hR0 hC5 hg5 hs5 hz8
          go_wp2_with fail
          go_loopw [12] (fun i wr => ∃ k : Nat, k ≤ 64 ∧ i = .int .i64 k ∧ RB w w.heap.size b4 b5 b6 v (rcells 64 SP) wr ∧ Blk wr b11 110 (wcells (v.rnds kTab SP k).list).toArray) (fun i _ => 64 - (intOf i).toNat)
          case atStart => exact ⟨0, by omega, rfl, hR5, h11⟩
          case round =>
            clear hR5 h11
            obtain ⟨k, hk64, rfl, hR0, h11⟩ := hrel
            by_cases hlt : k < 64
            · --<3
              have cw : wr.cell? ⟨b6, k, none⟩ = some (.int .u32 (u (SP[k]?.getD 0))) := (hR0.M.cell k).trans (rcells_get 64 SP k (by rw [HL.out]; exact hlt))
              have ck : wr.cell? ⟨b5, k, none⟩ = some (.int .u32 (u (kTab[k]?.getD 0))) := (hR0.K.cell k).trans (by rw [List.getElem?_toArray]; exact wcells_get kTab k hlt)
              obtain ⟨V, hV⟩ : ∃ V, V = v.rnds kTab SP k := ⟨_, rfl⟩
              obtain ⟨xk, hxk⟩ : ∃ x, x = kTab[k]?.getD 0 := ⟨_, rfl⟩
              have hnx : v.rnds kTab SP (k + 1) = V.rnd xk (SP[k]?.getD 0) := by show (v.rnds kTab SP k).rnd _ _ = _; rw [← hV, ← hxk]
              rw [← hV] at h11
              rw [← hxk] at ck
              have Hnx := Lib.hid hnx
              clear hnx hV hxk
              obtain ⟨va, vb, vc, vd, ve, vf, vg, vh⟩ := V
              have c0 : wr.cell? ⟨b11, 0, none⟩ = some (.int .u32 (u va)) := h11.cell 0
              have c1 : wr.cell? ⟨b11, 1, none⟩ = some (.int .u32 (u vb)) := h11.cell 1
              have c2 : wr.cell? ⟨b11, 2, none⟩ = some (.int .u32 (u vc)) := h11.cell 2
              have c3 : wr.cell? ⟨b11, 3, none⟩ = some (.int .u32 (u vd)) := h11.cell 3
              have c4 : wr.cell? ⟨b11, 4, none⟩ = some (.int .u32 (u ve)) := h11.cell 4
              have c5 : wr.cell? ⟨b11, 5, none⟩ = some (.int .u32 (u vf)) := h11.cell 5
              have c6 : wr.cell? ⟨b11, 6, none⟩ = some (.int .u32 (u vg)) := h11.cell 6
              have c7 : wr.cell? ⟨b11, 7, none⟩ = some (.int .u32 (u vh)) := h11.cell 7
              have H11 := Lib.hid h11
              clear h11
              go_wp2_with fail
              go_quiet (fail)
              go_wp2_with fail
              have hn : ∀ a, (wr.drewN nq).cell? a = wr.cell? a := fun a => rfl
              rw [← hn] at c0 c1 c2 c3 c4 c5 c6 c7 cw ck
              have h11 := (H11.out).drewN nq
              have hR1 := hR0.drewN nq
              generalize wr.drewN nq = W1 at *
              clear hn H11 hR0
              go_quiet ((go_at_call 90; refine Calls.quiet_of (rturn_any _ _ (by omega) (by omega) _)))
              go_wp2_with fail
              have hn : ∀ a, (W1.drewN nq).cell? a = W1.cell? a := fun a => rfl
              rw [← hn] at c0 c1 c2 c3 c4 c5 c6 c7 cw ck
              have h11 := h11.drewN nq
              have hR1 := hR1.drewN nq
              generalize W1.drewN nq = W2 at *
              clear hn
              go_quiet ((go_at_call 90; refine Calls.quiet_of (rturn_any _ _ (by omega) (by omega) _)))
              have hn : ∀ a, (W2.drewN nq).cell? a = W2.cell? a := fun a => rfl
              rw [← hn] at c0 c1 c2 c3 c4 c5 c6 c7 cw ck
              have h11 := h11.drewN nq
              have hR1 := hR1.drewN nq
              generalize W2.drewN nq = W3 at *
              clear hn cw ck
              go_wp2_with ((with_reducible refine at_store 110 ?_); refine wpList_storeAll _ rfl 110 _ _ rfl b11 110 _ #[.int .u32 (u _), .int .u32 (u _), .int .u32 (u _), .int .u32 (u _), .int .u32 (u _), .int .u32 (u _), .int .u32 (u _), .int .u32 (u _)] h11 rfl rfl rfl (by kernel_rfl) (v8_one _ _ _ _ _ _ _ _) ?_; intro w6 h12 hg6 hs6)
              have hR2 := hR1.chg (Chg.grown (Z := fun b => b = b11) hg6 (by rintro j h; cases h; rfl)) hl6
              clear c0 c1 c2 c3 c4 c5 c6 c7 hg6 hs6 hR1 h11
              have h13 : Blk w6 b11 110 (wcells (v.rnds kTab SP (k + 1)).list).toArray := by
                rw [Hnx.out]; exact h12
              clear h12
              go_roundw
              case rel =>
                exact ⟨k + 1, by omega, by go_num, hR2, h13⟩
              case measure => simp [intOf]; omega
              --3>
            · obtain rfl : k = 64 := by omega
              clear hlt hk64
              obtain ⟨V, hV⟩ : ∃ V, V = v.rnds kTab SP 64 := ⟨_, rfl⟩
              have hcomp : comp v p = v.add V := by unfold comp; rw [← HSP.out, hV]
              rw [← hV] at h11
              have HC := Lib.hid hcomp
              clear hV hcomp
              have l2 := hR0.le2
              have l11 : w.heap.size < b11 := by have := hR0.lt4; have := hR0.lt5; have := hR0.lt6; omega
              have l4 : w.heap.size < b4 := hR0.lt4
              have hH := hR0.H
              have hO := hR0.O
              have hB := hR0.B
              clear hR0 hR
              go_wp2_with fail
              go_loopw [17] (fun i wr => ∃ k : Nat, k ≤ 8 ∧ i = .int .i64 k ∧ Blk wr w.heap.size 110 (wcells (mixW v V k)).toArray ∧ Blk wr b4 110 z8 ∧ Blk wr b11 110 (wcells V.list).toArray ∧ Below w.heap.size w wr) (fun i _ => 8 - (intOf i).toNat)
              case atStart => exact ⟨0, by omega, rfl, hH, hO, h11, hB⟩
              case round =>
                clear hH hO h11 hB
                obtain ⟨k, hk8, rfl, hH, hO, h11, hB⟩ := hrel
                by_cases hlt : k < 8
                · obtain ⟨x, hx⟩ : ∃ x, x = V.list[k]?.getD 0 := ⟨_, rfl⟩
                  obtain ⟨y, hy⟩ : ∃ y, y = v.list[k]?.getD 0 := ⟨_, rfl⟩
                  have cx : wr.cell? ⟨b11, k, none⟩ = some (.int .u32 (u x)) := (h11.cell k).trans (by rw [List.getElem?_toArray, wcells_get _ _ (by rw [V8.list_length]; exact hlt), hx])
                  have cy : wr.cell? ⟨w.heap.size, k, none⟩ = some (.int .u32 (u y)) := (hH.cell k).trans (by rw [List.getElem?_toArray, wcells_get _ _ (by rw [mixW_length]; exact hlt), mixW_get _ _ _ hlt, hy])
                  have hs2 := w_set (mixW v V k) k (y + x)
                  rw [hx, hy, mixW_succ _ _ _ hlt, ← hx, ← hy] at hs2
                  have HS2 := Lib.hid hs2
                  clear hs2 hx hy
                  go_wp2_with fail
                  have g0 : (0 : Int) ≤ (k : Int) := by omega
                  have l0 : (k : Int) < (8 : Int) := by omega
                  go_still_tail 7, (by kernel_rfl)
                  change wpList _ _ _ _ _ wr.drew
                  have hH1 := hH.drew
                  have hO1 := hO.drew
                  have h12 := h11.drew
                  have hB1 := hB.drew
                  have cy1 : wr.drew.cell? ⟨w.heap.size, k, none⟩ = some (.int .u32 (u y)) := cy
                  have cf1 := hH1.frozen k
                  generalize wr.drew = W5 at *
                  clear cx cy hH hO h11 hB
                  go_wp2_with fail
                  have hH2 := hH1.set_ k (.int .u32 (u (y + x)))
                  rw [HS2.out] at hH2
                  have hO2 := hO1.far (p := ⟨w.heap.size, k, none⟩) (by simp; omega) (.int .u32 (u (y + x)))
                  have h13 := h12.far (p := ⟨w.heap.size, k, none⟩) (by simp; omega) (.int .u32 (u (y + x)))
                  have hB2 := hB1.setCell (p := ⟨w.heap.size, k, none⟩) (by simp) (.int .u32 (u (y + x)))
                  go_roundw
                  case rel =>
                    (repeat apply Exists.intro)
                    refine ⟨?_, rfl⟩
                    exact ⟨k + 1, by omega, by go_num, hH2, hO2, h13, hB2⟩
                  case measure => simp [intOf]; omega
                · obtain rfl : k = 8 := by omega
                  rw [mixW_all, ← HC.out] at hH
                  obtain ⟨X, hX⟩ : ∃ X : V8, X = comp v p := ⟨_, rfl⟩
                  rw [← hX] at hH
                  have HX := Lib.hid hX
                  clear hX HC h11
                  go_wp2_with (first
                    | ((with_reducible refine at_load 110 ?_); refine wpList_loadAll _ rfl 110 _ rfl w.heap.size 110 (wcells X.list).toArray hH _ rfl Tryz.underlying110 rfl (by kernel_rfl) ?_)
                    | ((with_reducible refine at_store 110 ?_); refine wpList_storeAll _ rfl 110 _ _ rfl b4 110 _ (wcells X.list).toArray hO rfl rfl (by kernel_rfl) (by kernel_rfl) (fun v hv => wcells_one _ v (by simpa using hv)) ?_; intro w5 h14 hg5 hs5))
                  refine bodyPost_ret (results_cell_row rfl _ _ b4 _ _ _ _ rfl h14 Tryz.underlying110 rfl (by kernel_rfl)) rfl ⟨by rw [HX.out], ?_⟩
                  exact grown_below hB hg5 hB.size (by omega)
end Go.Proofs.YtipdmhppadapkaaGreatDoor
/-
  Walks: portreeveref03.Pad, Sum.
-/
namespace Go.Proofs.YtipdmhppadapkaaGreatDoor
open Go.RowKit Sha

theorem own_nil (w : World) (base size : Nat) (e : TypeId) : w.ownsRow base e size (.slice none 0 0) 0 [] := ⟨by simp, .inl ⟨rfl, rfl⟩⟩
set_option maxRecDepth 100000 in
set_option maxHeartbeats 1000000 in
theorem rpad_any (n : Nat) (hn : n ≤ 1000000000) (w : World) :
    Calls Tryz.prog 49 #[.int .u64 (n : Int)] w fun e w' => ∃ A c, e = .returned (.slice A (pad n).length c) ∧ w'.ownsRow w.heap.size 5 1 (.slice A (pad n).length c) (pad n).length (bcells (pad n)) ∧ Below w.heap.size w w' := by
  have hpl := pad_length n
  have hpe := pad_eq n hn
  obtain ⟨z, hz⟩ : ∃ z, z = padZ n := ⟨_, rfl⟩
  rw [← hz] at hpl hpe
  have hz64 : z < 64 := by rw [hz]; unfold padZ; omega
  have hzn : (n + 9 + z) % 64 = 0 := by rw [hz]; unfold padZ; omega
  have Hpl := Lib.hid hpl
  have Hpe := Lib.hid hpe
  have Hzn := Lib.hid hzn
  clear hz hpl hpe hzn
  go_enter Tryz.func49, Tryz.ntmps49
  go_wp2_with fail
  have hb1 := Blk.new w 5 #[.int .u8 128]
  have hB1 : Below w.heap.size w (w.alloc (.cells #[.int .u8 128] 5)) := (Below.refl _ _).alloc (Nat.le_refl _) _
  have hO1 := hb1.own (base := w.heap.size) (size := 1) (n := 1) (m := 1) (Nat.le_refl _) rfl (Nat.le_refl _) (by omega)
  generalize w.alloc (.cells #[.int .u8 128] 5) = w1 at *
  clear hb1
  go_loopw [3] (fun s wr => ∃ k A c, k ≤ z ∧ s = .slice A (1 + k) c ∧ wr.ownsRow w.heap.size 5 1 (.slice A (1 + k) c) (1 + k) (bcells (128 :: List.replicate k 0)) ∧ Below w.heap.size w wr) (fun s _ => 100 - sliceLen s)
  case atStart => exact ⟨0, _, _, Nat.zero_le _, rfl, hO1, hB1⟩
  case round =>
    clear hO1 hB1
    obtain ⟨k, A, c, hk, rfl, hO, hB⟩ := hrel
    by_cases hlt : k < z
    · have hne : ((((n : Int) + (1 + (k : Int)) + 8) % 64) != 0) = true := by have := Hzn.out; simp; omega
      have hne2 : ((((n : Int) + (1 + (k : Int)) + 8) % 64) == 0) = false := by have := Hzn.out; simp; omega
      go_wp2_with (at_builtin; refine wpList_app1 wr el8 rfl _ _ rfl w.heap.size A (1 + k) c _ rfl hO (.int .u8 0) rfl rfl (by omega) (by omega) hB.size ?_; intro A3 c3 w3 hO3 hg3 hB3)
      have hO4 : w3.ownsRow w.heap.size 5 1 (.slice A3 (1 + (k + 1)) c3) (1 + (k + 1)) (bcells (128 :: List.replicate (k + 1) 0)) := by
        have e : bcells (128 :: List.replicate (k + 1) 0) = bcells (128 :: List.replicate k 0) ++ [.int .u8 0] := by
          rw [List.replicate_succ', ← List.cons_append, bcells_append]; rfl
        rw [e, ← Nat.add_assoc]; exact hO3
      have hB4 := hB.trans hB3
      clear hO hO3 hB hg3 hB3 hne hne2
      go_roundw
      case rel => exact ⟨k + 1, A3, c3, by omega, rfl, hO4, hB4⟩
      case measure => simp [sliceLen]; omega
    · obtain rfl : k = z := by omega
      have hne : ((((n : Int) + (1 + (k : Int)) + 8) % 64) != 0) = false := by have := Hzn.out; simp; omega
      have hne2 : ((((n : Int) + (1 + (k : Int)) + 8) % 64) == 0) = true := by have := Hzn.out; simp; omega
      have hRd := Rd.of_own hO
      go_wp2_with fail
      refine (rput_any A (1 + k) c false (128 :: List.replicate k 0) wr (8 * n) 8 hRd (by omega) (by omega)).mono ?_
      rintro e w4 ⟨A4, c4, rfl, hO4, hB4⟩
      have e1 : putNum (8 * n) 8 false = putAll [8 * n] 8 false := by simp [putAll]
      rw [e1, Hpe.out, ← Hpl.out] at hO4
      rw [← Hpl.out]
      have hO5 := own_baseS hO4 hB.size
      have hB5 := hB.trans (hB4.mono hB.size)
      clear hO hO4 hB hB4 e1 hne hne2 hRd
      go_wp2
      go_ret
      exact ⟨A4, c4, rfl, hO5, hB5⟩

/-- the first q bytes of a sum, and 0 behind them -/
def outp (v : V8) (q : Nat) : List UInt8 := (out v).take q ++ List.replicate (32 - q) 0
theorem outp_length (v : V8) (q : Nat) (h : q ≤ 32) : (outp v q).length = 32 := by
  unfold outp; rw [List.length_append, List.length_take, List.length_replicate, out_length]; omega
theorem outp_set (v : V8) (q : Nat) (h : q < 32) (c : UInt8) (hc : (out v)[q]? = some c) : (outp v q).set q c = outp v (q + 1) := by
  unfold outp
  have hl : ((out v).take q).length = q := by rw [List.length_take, out_length]; omega
  rw [List.set_append_right _ _ (by omega), hl, Nat.sub_self, show 32 - q = (32 - (q + 1)) + 1 by omega, List.replicate_succ, List.set_cons_zero]
  rw [List.take_succ_eq_append_getElem (by rw [out_length]; exact h)]
  rw [List.getElem?_eq_getElem (by rw [out_length]; exact h)] at hc
  cases hc
  rw [List.append_assoc]
  rfl
theorem out_get (v : V8) (i j : Nat) (hi : i < 8) (hj : j < 4) (x : W) (hx : x = v.list[i]?.getD 0) : (out v)[4 * i + j]? = some (ob (x >>> (24 - 8 * j))) := by
  subst hx
  have h1 : ∀ y : W, ob (y >>> 0) = ob y := fun y => by rw [BitVec.ushiftRight_zero]
  match i, j with
  | 0, 0 => rfl
  | 0, 1 => rfl
  | 0, 2 => rfl
  | 0, 3 => exact congrArg some (h1 _).symm
  | 1, 0 => rfl
  | 1, 1 => rfl
  | 1, 2 => rfl
  | 1, 3 => exact congrArg some (h1 _).symm
  | 2, 0 => rfl
  | 2, 1 => rfl
  | 2, 2 => rfl
  | 2, 3 => exact congrArg some (h1 _).symm
  | 3, 0 => rfl
  | 3, 1 => rfl
  | 3, 2 => rfl
  | 3, 3 => exact congrArg some (h1 _).symm
  | 4, 0 => rfl
  | 4, 1 => rfl
  | 4, 2 => rfl
  | 4, 3 => exact congrArg some (h1 _).symm
  | 5, 0 => rfl
  | 5, 1 => rfl
  | 5, 2 => rfl
  | 5, 3 => exact congrArg some (h1 _).symm
  | 6, 0 => rfl
  | 6, 1 => rfl
  | 6, 2 => rfl
  | 6, 3 => exact congrArg some (h1 _).symm
  | 7, 0 => rfl
  | 7, 1 => rfl
  | 7, 2 => rfl
  | 7, 3 => exact congrArg some (h1 _).symm
attribute [local go_sem] u_shr24 u_shr16 u_shr8 u_shr u_ob u_ob'

set_option maxRecDepth 100000 in
set_option maxHeartbeats 4000000 in
theorem rsum_any (A : Option Addr) (n c : Nat) (b : List UInt8) (w : World) (hR : Rd w w.heap.size 1 A n (bcells b)) (hn : n ≤ 1000000) :
    Calls Tryz.prog 16 #[.slice A n c] w fun e w' => e = .returned (.agg (bcells (Sha.sum b)).toArray) ∧ Below w.heap.size w w' := by
  have hbl : b.length = n := by have := hR.len; rw [bcells_length] at this; omega
  have Hbl := Lib.hid hbl
  have hz := zeroNode
  have hz8 := zero8w
  go_enter Tryz.func16, Tryz.ntmps16
  have hN0 := Blk.new w 39 zn
  have hB0 : Below w.heap.size w (w.alloc (.cells zn 39)) := (Below.refl _ _).alloc (Nat.le_refl _) _
  have hs0 : (w.alloc (.cells zn 39)).heap.size = w.heap.size + 1 := by simp
  obtain ⟨W0, hW0⟩ : ∃ W0, W0 = w.alloc (.cells zn 39) := ⟨_, rfl⟩
  rw [← hW0] at hN0 hB0 hs0
  have HW0 := Lib.hid hW0
  have HS0 := Lib.hid hs0
  clear hbl hW0 hs0
  have hR0 := (hR.below hB0)
  go_wp2_with (at_builtin; rw [← HW0.out]; refine wpList_app W0 el8 rfl _ _ rfl W0.heap.size none 0 0 [] rfl (own_nil W0 _ _ _) w.heap.size A n c (bcells b) rfl hR0 (bcells_one b) (by omega) (by omega) (Nat.le_refl _) ?_; intro A1 c1 W1 hO1 hg1 hB1 _)
  have hN1 := hN0.below hB1 (by have := HS0.out; omega)
  have hB2 := hB0.trans (hB1.mono hB0.size)
  rw [Nat.zero_add, List.nil_append] at hO1
  refine (rpad_any n (by omega) W1).mono ?_
  rintro e W2 ⟨A2, c2, rfl, hO2, hB3⟩
  have hO1' := own_baseS hO1 (Nat.le_of_lt (show w.heap.size < W0.heap.size by have := HS0.out; omega))
  have hO3 := own_chg hO1 (Chg.of_ext (Z := fun _ => False) hB3) (fun _ _ h => h)
  have hN2 := hN1.below hB3 (by have := hB1.size; have := HS0.out; omega)
  have hB4 := hB2.trans (hB3.mono hB2.size)
  have hpl := pad_length n
  have hpz : padZ n < 64 := by unfold padZ; omega
  have Hpl := Lib.hid hpl
  have hR2 := Rd.of_own hO2
  obtain ⟨PN, hPN⟩ : ∃ PN, PN = (pad n).length := ⟨_, rfl⟩
  have hPN1 : PN ≤ 72 := by omega
  rw [← hPN] at hO2 hR2 ⊢
  have HPN := Lib.hid hPN
  have hW0s : W0.heap.size ≤ W2.heap.size := Nat.le_trans hB1.size hB3.size
  clear hpl hPN hpz hO1 hO1' hN0 hN1 hB0 hB1 hB2 hB3 hg1
  go_wp2_with (at_builtin; refine wpList_app W2 el8 rfl _ _ rfl W0.heap.size A1 n c1 _ rfl hO3 W2.heap.size A2 PN c2 (bcells (pad n)) rfl hR2 (bcells_one _) (by omega) (by omega) hW0s ?_; intro A3 c3 W3 hO4 hg4 hB5 _)
  have hN3 := hN2.below hB5 (by have := HS0.out; omega)
  have hB6 := hB4.trans (hB5.mono (by have := HS0.out; omega))
  rw [← bcells_append] at hO4
  have hRM := Rd.of_own hO4
  obtain ⟨hcap1, hcap2⟩ := own_cap hO4
  obtain ⟨M, hM⟩ : ∃ M, M = b ++ pad n := ⟨_, rfl⟩
  have hML : M.length = n + PN := by rw [hM, List.length_append, Hbl.out, HPN.out]
  have hMT : 64 * ((n + PN) / 64) = n + PN := by have := pad_whole n; rw [HPN.out]; exact this
  rw [← hM] at hRM
  obtain ⟨T, hT⟩ : ∃ T, T = n + PN := ⟨_, rfl⟩
  rw [← hT] at hRM hML hMT hcap1 ⊢
  have HM := Lib.hid hM
  have HML := Lib.hid hML
  have HMT := Lib.hid hMT
  have HT := Lib.hid hT
  have hTb : T ≤ 1000100 := by omega
  clear hM hML hMT hT hO2 hO3 hO4 hN2 hB4 hB5 hg4 hR0 hR2 hPN1
  have hNW : w.heap.size < W3.heap.size := hN3.lt
  go_wp2_with fail
  refine (rinit_any W3).mono ?_
  rintro e W4 ⟨rfl, hB7⟩
  have hN4 := hN3.below hB7 hNW
  have hB8 := hB6.trans (hB7.mono hB6.size)
  have hRM4 := hRM.below hB7
  have hs4 := hB7.size
  clear hN3 hB6 hB7 hRM
  go_wp2_with ((with_reducible refine at_store 110 ?_); refine wpList_storeAll _ rfl 110 _ _ rfl W4.heap.size 110 _ (wcells h0.list).toArray (Blk.new W4 110 z8) rfl rfl (by kernel_rfl) (by kernel_rfl) (fun v hv => wcells_one _ v (by simpa using hv)) ?_; intro w5 h11 hg5 hs5)
  have hC5 : Chg (fun k => k = W4.heap.size) W4 w5 := ((Chg.refl _ W4).alloc _).trans (Chg.grown hg5 (by rintro j h; cases h; rfl))
  have hN5 := hN4.chg hC5 (show ¬ w.heap.size = W4.heap.size by omega)
  have hB9 : Below w.heap.size w w5 := hB8.trans (hC5.below (fun k hk => by have hk : k = W4.heap.size := hk; omega) (by omega))
  have hRM5 := (hRM4.more hs4).chg hC5 (Nat.le_refl _) (fun k hk => by have hk : k = W4.heap.size := hk; omega)
  obtain ⟨g4, hg4⟩ : ∃ g, g = W4.heap.size := ⟨_, rfl⟩
  rw [← hg4] at h11 hRM5 hs4 ⊢
  have hgl : w.heap.size < g4 := by omega
  have hgs5 : g4 < w5.heap.size := h11.lt
  clear hg4 hC5 hg5 hs5 hN4 hB8 hRM4 hz8 hs4
  go_wp2_with fail
  simp only [Act.put]
  go_loopw [3] (fun s wr => ∃ j A1 c1, s = .slice A1 (T - 64 * j) c1 ∧ 64 * j ≤ T ∧ T - 64 * j ≤ c1 ∧ Rd wr g4 1 A1 (T - 64 * j) (bcells (M.drop (64 * j))) ∧ Blk wr g4 110 (wcells (eats h0 M j).list).toArray ∧ Below g4 w5 wr) (fun s _ => sliceLen s)
  case atStart => exact ⟨0, A3, c3, rfl, by omega, hcap1, by simpa using hRM5, h11, Below.refl _ _⟩
  case round =>
    clear hRM5 h11
    obtain ⟨j, A1, c1, rfl, hj, hc1, hRj, hV, hBw⟩ := hrel
    have hN6 := hN5.below hBw hgl
    by_cases hlt : 64 * j < T
    · --<1
      have h64 : 64 ≤ T - 64 * j := by have := HMT.out; omega
      have h0 : (0 : Int) < ((T - 64 * j : Nat) : Int) := by omega
      have c64 : (64 : Int) ≤ (c1 : Int) := by omega
      generalize hN1 : T - 64 * j = N1 at *
      have HN1 := Lib.hid hN1.symm
      obtain ⟨p, hp2⟩ : ∃ p, p = (M.drop (64 * j)).take 64 := ⟨_, rfl⟩
      have hp : p.length = 64 := by rw [hp2]; have := HML.out; simp; omega
      have hRp0 := hRj.front (k := 64) h64
      have hRp : Rd wr.drew g4 1 A1 64 (bcells p) := by
        rw [hp2]
        have : (bcells (M.drop (64 * j))).take (64 * 1) = bcells ((M.drop (64 * j)).take 64) := by simp [bcells, List.map_take]
        rw [← this]; exact hRp0.drew
      obtain ⟨V, hVV⟩ : ∃ V, V = eats Sha.h0 M j := ⟨_, rfl⟩
      rw [← hVV] at hV
      obtain ⟨X, hXX⟩ : ∃ X, X = comp V p := ⟨_, rfl⟩
      have hnx : eats Sha.h0 M (j + 1) = X := by
        show comp (eats Sha.h0 M j) ((M.drop (64 * j)).take 64) = _
        rw [← hVV, ← hp2, hXX]
      have HP := Lib.hid hp
      have HXX := Lib.hid hXX
      have Hnx := Lib.hid hnx
      have hgs : g4 ≤ wr.drew.heap.size := Nat.le_of_lt hV.lt
      clear hp2 hp hRp0 hVV hXX hnx hN1
      go_wp2_with fail
      refine Flow.wp_region_flow (g4) [(4, fun b => b = g4)] [(0, fun W => Blk W g4 110 ((wcells V.list).toArray)), (4, fun W => Blk W g4 110 ((wcells V.list).toArray))] (by kernel_rfl) (by kernel_rfl) hgs (Flow.nz_cons (by rintro b rfl; exact Nat.le_refl _) Flow.nz_nil) (Flow.facts_cons (hV.drew) (Flow.kept_blk id) (Flow.fz_cons (Flow.no_follow (by kernel_rfl)) Flow.fz_nil) (Flow.facts_cons (hV.drew) (Flow.kept_blk id) (Flow.fz_cons (Flow.no_follow (by kernel_rfl)) Flow.fz_nil) Flow.facts_nil)) ?_
      refine Flow.pass_val (.agg (wcells V.list).toArray) (Flow.met_none rfl) (fun a W hH => ?_) ?_
      · have e0 := Flow.see_old 4 hH.sees (by kernel_rfl) (by kernel_rfl) rfl
        have fa0 : (fun W => Blk W g4 110 ((wcells V.list).toArray)) W := hH.fact _ (List.mem_of_getElem? (i := 0) rfl) rfl
        exact reg_load 110 4 rfl e0 fa0 Tryz.underlying110 rfl (by kernel_rfl)
      refine Flow.pass_old 3 (Flow.met_none rfl) (.inl rfl) (by kernel_rfl) (by kernel_rfl) rfl ?_
      refine Flow.pass_val (.slice A1 64 c1) (Flow.met_none rfl) (fun a W hH => ?_) ?_
      · have e0 := Flow.see_new 20 1 hH.sees (by kernel_rfl) (by kernel_rfl) rfl rfl
        go_simp; first | done | rfl
      refine Flow.pass_step (Reg.eqs (.agg (wcells (comp V p).list).toArray)) (fun _ _ => Flow.kept_eqs _ _) (Flow.met_none rfl) (fun a W hH => ?_) ?_
      · have e0 := Flow.see_new 19 0 hH.sees (by kernel_rfl) (by kernel_rfl) rfl rfl
        have e1 := Flow.see_new 21 2 hH.sees (by kernel_rfl) (by kernel_rfl) rfl rfl
        refine Reg.wp_call rfl Tryz.func51 rfl (by kernel_rfl) (by simp [Act.eval, e0, e1]) (rblock_any A1 c1 p HP.out V W ((hRp.below hH.below).more (Nat.le_trans hgs hH.below.size))) ?_
        rintro e w' ⟨rfl, hB⟩
        exact ⟨_, rfl, _, rfl, hB, rfl⟩
      refine Flow.pass_list (fun _ W => Blk W g4 110 (wcells X.list).toArray) (Flow.kept_of (fun _ _ _ c h => h.chg c id) (Flow.kz_cons (Flow.no_follow (by kernel_rfl)) Flow.kz_nil)) (Flow.met_none rfl) (fun a W hH => ?_) ?_
      · have e0 := Flow.see_old 4 hH.sees (by kernel_rfl) (by kernel_rfl) rfl
        have e1 := Flow.see_new 22 3 hH.sees (by kernel_rfl) (by kernel_rfl) rfl rfl
        have fa1 : (fun W => Blk W g4 110 ((wcells V.list).toArray)) W := hH.fact _ (List.mem_of_getElem? (i := 1) rfl) rfl
        rw [← HXX.out] at e1
        refine wpList_storeAll W rfl 110 _ _ rfl g4 110 _ (wcells X.list).toArray fa1 (by simpa [Act.eval] using e0) (by simpa [Act.eval] using e1) (by kernel_rfl) (by kernel_rfl) (fun v hv => wcells_one _ v (by simpa using hv)) ?_
        intro W2 h2 hg _
        exact Flow.qq_nil ⟨_, rfl, Chg.grown hg (by rintro k h; cases h; rfl), h2⟩
      refine Flow.pass_end [none, none, none, none, none, none, none, none, none, none, none, none, none, none, none, none, none, none, none, some 19, some 20, some 21, some 22, none, none, none, none, none, none, none, none, none, none, none, none, none, none, none, none, none, none, none, none, none, none, none, none] (by kernel_rfl) ?_
      intro f gg w9 hB9' hfa hT' hfg
      have h4 := hT' 4 _ (by kernel_rfl) rfl
      have hBw9 := (hBw.drew).trans hB9'
      have hRj9 := (hRj.drew).below hB9'
      clear hfa hT' hfg hB9' hRp hRj hV hBw
      simp only [Reg.sel]
      rw [← Hnx.out] at h4
      go_wp2_with ((with_reducible refine at_slice 22 ?_); refine wpList_from w9 rfl Tryz.underlying22 (by kernel_rfl) _ _ rfl A1 N1 c1 rfl .i64 64 rfl 64 rfl h64 hc1 ?_; intro A2' hcut)
      have hR10 := hcut _ _ _ hRj9
      have e1 : N1 - 64 = T - 64 * (j + 1) := by have := HN1.out; omega
      have e2 : (bcells (M.drop (64 * j))).drop 64 = bcells (M.drop (64 * (j + 1))) := by
        simp only [bcells, ← List.map_drop, List.drop_drop]
        rw [show 64 * j + 64 = 64 * (j + 1) by omega]
      rw [e1, e2] at hR10
      clear hcut hRj9
      go_roundw
      case rel => exact ⟨j + 1, A2', c1 - 64, by rw [e1], by have := HN1.out; omega, by omega, hR10, h4, hBw9⟩
      case measure => simp [sliceLen]; omega
      --1>
    · have hjT : T - 64 * j = 0 := by omega
      have hj64 : j = T / 64 := by have := HMT.out; omega
      obtain ⟨v, hv⟩ : ∃ v, v = eats Sha.h0 M j := ⟨_, rfl⟩
      rw [← hv] at hV
      have hout : Sha.sum b = out v := by
        unfold Sha.sum
        rw [Hbl.out, ← HPN.out, ← HT.out, ← HM.out, ← hj64, hv]
      have Hout := Lib.hid hout
      have hB10 := hB9.trans (hBw.mono (Nat.le_of_lt hgl))
      rw [hjT]
      clear hv hout hj64 hjT hRj hlt hc1 hj hN5 hB9 hBw
      have hg45 : g4 < wr.heap.size := hV.lt
      go_wp2_with fail
      have hM6 := Blk.new wr 39 zn
      have hV6 := hV.alloc (.cells zn 39)
      have hN7 := hN6.alloc (.cells zn 39)
      have hB11 := hB10.alloc hB10.size (.cells zn 39)
      generalize wr.alloc (.cells zn 39) = W6 at *
      generalize wr.heap.size = g5 at *
      clear hV hN6 hB10 hz
      go_loopw [6] (fun i wq => ∃ k : Nat, k ≤ 8 ∧ i = .int .i64 k ∧ Blk wq g5 39 (bcells (outp v (4 * k))).toArray ∧ Blk wq g4 110 (wcells v.list).toArray ∧ Blk wq w.heap.size 39 zn ∧ Below w.heap.size w wq) (fun i _ => 8 - (intOf i).toNat)
      case atStart => exact ⟨0, by omega, rfl, hM6, hV6, hN7, hB11⟩
      case round =>
        clear hM6 hV6 hN7 hB11
        obtain ⟨k, hk8, rfl, hM, hV, hN, hB⟩ := hrel
        by_cases hlt : k < 8
        · go_wp2_with fail
          go_loopw [7] (fun i wq => ∃ j : Nat, j ≤ 4 ∧ i = .int .i64 j ∧ Blk wq g5 39 (bcells (outp v (4 * k + j))).toArray ∧ Blk wq g4 110 (wcells v.list).toArray ∧ Blk wq w.heap.size 39 zn ∧ Below w.heap.size w wq) (fun i _ => 4 - (intOf i).toNat)
          case atStart => exact ⟨0, by omega, rfl, hM, hV, hN, hB⟩
          case round =>
            clear hM hV hN hB
            obtain ⟨j, hj4, rfl, hM, hV, hN, hB⟩ := hrel
            by_cases hjt : j < 4
            · obtain ⟨x, hx⟩ : ∃ x, x = v.list[k]?.getD 0 := ⟨_, rfl⟩
              have cx : wr.cell? ⟨g4, k, none⟩ = some (.int .u32 (u x)) := by
                rw [hx]; exact (hV.cell k).trans (by rw [List.getElem?_toArray]; exact wcells_get v.list k hlt)
              have hos := outp_set v (4 * k + j) (by omega) _ (out_get v k j hlt hjt x hx)
              have Hos := Lib.hid hos
              have hol : (bcells (outp v (4 * k + j))).toArray.size = 32 := by simp [bcells_length, outp_length v (4 * k + j) (by omega)]
              obtain ⟨y0, hy0⟩ : ∃ y, wr.cell? ⟨g5, 4 * k + j, none⟩ = some y := by rw [hM.cell]; exact ⟨_, Array.getElem?_eq_getElem (by rw [hol]; omega)⟩
              have f0 := hM.frozen (4 * k + j)
              have hM4 := hM.set_ (4 * k + j) (.int .u8 ((ob (x >>> (24 - 8 * j))).toNat : Int))
              rw [bset, Hos.out] at hM4
              have hN4 := hN.far (p := ⟨g5, 4 * k + j, none⟩) (show w.heap.size ≠ g5 by omega) (.int .u8 ((ob (x >>> (24 - 8 * j))).toNat : Int))
              have hV4 := hV.far (p := ⟨g5, 4 * k + j, none⟩) (show g4 ≠ g5 by omega) (.int .u8 ((ob (x >>> (24 - 8 * j))).toNat : Int))
              have hB4 := hB.setCell (p := ⟨g5, 4 * k + j, none⟩) (show w.heap.size ≤ g5 by omega) (.int .u8 ((ob (x >>> (24 - 8 * j))).toNat : Int))
              have e24 : ((24 : Int) - 8 * (j : Int)).toNat = 24 - 8 * j := by omega
              clear hx hos hol hM hN hV hB
              go_wp2_with fail
              go_roundw
              case rel => exact ⟨j + 1, by omega, by go_num, hM4, hV4, hN4, hB4⟩
              case measure => simp [intOf]; omega
            · obtain rfl : j = 4 := by omega
              rw [show 4 * k + 4 = 4 * (k + 1) by omega] at hM
              go_wp2_with fail
              go_roundw
              case rel => exact ⟨k + 1, by omega, by go_num, hM, hV, hN, hB⟩
              case measure => simp [intOf]; omega
        · obtain rfl : k = 8 := by omega
          have hout8 : outp v (4 * 8) = out v := by
            unfold outp
            rw [List.take_of_length_le (by rw [out_length]; exact Nat.le_refl _)]
            simp
          rw [hout8, ← Hout.out] at hM
          obtain ⟨S, hS⟩ : ∃ S, S = Sha.sum b := ⟨_, rfl⟩
          have hSl : S.length = 32 := by rw [hS, sum_length]
          rw [← hS] at hM
          have HSl := Lib.hid hSl
          have HSS := Lib.hid hS
          clear hS hSl Hout hout8
          go_wp2_with (first
            | ((with_reducible refine at_load 39 ?_); refine wpList_loadAll _ rfl 39 _ rfl g5 39 (bcells S).toArray hM _ rfl Tryz.underlying39 rfl (by rw [List.size_toArray, bcells_length, HSl.out]; kernel_rfl) ?_)
            | ((with_reducible refine at_store 39 ?_); refine wpList_storeAll _ rfl 39 _ _ rfl w.heap.size 39 _ (bcells S).toArray hN rfl rfl (by rw [List.size_toArray, bcells_length, HSl.out]; kernel_rfl) (by rw [List.size_toArray, bcells_length, HSl.out]; kernel_rfl) (fun v hv => bcells_one _ v (by simpa using hv)) ?_; intro w5 h14 hg5 hs5))
          refine bodyPost_ret (results_cell_row rfl _ _ w.heap.size _ _ _ _ rfl h14 Tryz.underlying39 rfl (by rw [List.size_toArray, bcells_length, HSl.out]; kernel_rfl)) rfl ⟨by rw [HSS.out], ?_⟩
          exact grown_below hB hg5 hB.size (Nat.le_refl _)
end Go.Proofs.YtipdmhppadapkaaGreatDoor
/-
  Walks: prf.Keyed and portreeveref04.Keyed.
-/
namespace Go.Proofs.YtipdmhppadapkaaGreatDoor
open Go.RowKit Sha

theorem blk_new2 (w : World) (o o2 : Obj) (t : TypeId) (cs : Array Value) : Blk (((w.alloc o).alloc o2).alloc (.cells cs t)) (w.heap.size + 2) t cs := by
  have := Blk.new ((w.alloc o).alloc o2) t cs
  rw [World.size_alloc, World.size_alloc] at this; exact this
theorem blk_new3 (w : World) (o o2 o3 : Obj) (t : TypeId) (cs : Array Value) : Blk ((((w.alloc o).alloc o2).alloc o3).alloc (.cells cs t)) (w.heap.size + 3) t cs := by
  have := Blk.new (((w.alloc o).alloc o2).alloc o3) t cs
  rw [World.size_alloc, World.size_alloc, World.size_alloc] at this; exact this
theorem blk_new4 (w : World) (o o2 o3 o4 : Obj) (t : TypeId) (cs : Array Value) : Blk (((((w.alloc o).alloc o2).alloc o3).alloc o4).alloc (.cells cs t)) (w.heap.size + 4) t cs := by
  have := Blk.new ((((w.alloc o).alloc o2).alloc o3).alloc o4) t cs
  rw [World.size_alloc, World.size_alloc, World.size_alloc, World.size_alloc] at this; exact this
/-- a block's bytes, under a bound -/
theorem Blk.rdB {w : World} {g B : Nat} {t : TypeId} {l : List UInt8} (h : Blk w g t (bcells l).toArray) (n : Nat) (hn : (bcells l).toArray.size = n * 1) (hB : g < B) : Rd w B 1 (some ⟨g, 0, none⟩) n (bcells l) := by
  have := h.rd (size := 1) (n := n) hn
  refine ⟨this.1, fun k v hv => ?_⟩
  obtain ⟨a, ha, _, hc⟩ := this.cell k v hv
  cases ha
  exact ⟨_, rfl, hB, hc⟩
/-- a hash of a kind -/
def keyed (kind : Nat) (b : List UInt8) : List UInt8 := Sha.sum (List.replicate 28 0 ++ putNum kind 4 false ++ b)
theorem keyed_length (kind : Nat) (b : List UInt8) : (keyed kind b).length = 32 := sum_length _
theorem made28 : madeCells (Value.int .u8 0).cells (28 * 1) = (bcells (List.replicate 28 0)).toArray := by kernel_rfl

set_option maxRecDepth 100000 in
set_option maxHeartbeats 1000000 in
theorem rkeyed_any (kind : Nat) (hk : kind < 4294967296) (A : Option Addr) (n c : Nat) (b : List UInt8) (w : World) (hR : Rd w w.heap.size 1 A n (bcells b)) (hn : n ≤ 900000) :
    Calls Tryz.prog 85 #[.int .u32 (kind : Int), .slice A n c] w fun e w' => e = .returned (.agg (bcells (keyed kind b)).toArray) ∧ Below w.heap.size w w' := by
  have hz := zeroNode
  have hwr : IntKind.u64.wrap (kind : Int) = (kind : Int) := IntWalk.u64_in _ (by omega)
  have hN := Blk.new w 39 zn
  have hB0 : Below w.heap.size w (w.alloc (.cells zn 39)) := (Below.refl _ _).alloc (Nat.le_refl _) _
  have hs0 : w.heap.size < (w.alloc (.cells zn 39)).heap.size := by simp
  obtain ⟨W0, hW0⟩ : ∃ W0, W0 = w.alloc (.cells zn 39) := ⟨_, rfl⟩
  rw [← hW0] at hN hB0 hs0
  have HW0 := Lib.hid hW0
  clear hW0
  go_enter Tryz.func85, Tryz.ntmps85
  go_wp2_with (at_make; rw [← HW0.out]; refine wpList_makeN W0 el8 rfl _ _ rfl .i64 .i64 _ _ 28 28 rfl rfl rfl rfl (by omega) (by omega) (by omega) ?_; intro w1 hb1 hs1 hB1)
  rw [made28] at hb1
  have hr1 := hb1.rd (size := 1) (n := 28) (by simp [bcells_length])
  have hs01 : W0.heap.size ≤ w1.heap.size := hB1.size
  have hN1 := hN.below hB1 hs0
  have hBw1 := hB0.trans (hB1.mono (Nat.le_of_lt hs0))
  refine (rput_any (some ⟨W0.heap.size, 0, none⟩) 28 28 false (List.replicate 28 0) w1 kind 4 (by simpa using hr1) (by omega) (by omega)).mono ?_
  rintro e w2 ⟨A2, c2, rfl, hO2, hB2⟩
  have hN2 := hN1.below hB2 (by omega)
  have hBw2 := hBw1.trans (hB2.mono hBw1.size)
  have hR2 := (hR.below hBw2)
  have hbs : w1.heap.size ≤ w2.heap.size := hB2.size
  clear hb1 hs1 hr1 hN hN1 hB0 hB1 hBw1
  go_wp2_with (at_builtin; refine wpList_app w2 el8 rfl _ _ rfl w1.heap.size A2 32 c2 _ rfl hO2 w.heap.size A n c (bcells b) rfl hR2 (bcells_one b) (by omega) (by omega) hbs ?_; intro A3 c3 w3 hO3 hg3 hB3 _)
  rw [← bcells_append] at hO3
  have hN3 := hN2.below hB3 (by omega)
  have hBw3 := hBw2.trans (hB3.mono (by omega))
  obtain ⟨S, hS⟩ : ∃ S, S = keyed kind b := ⟨_, rfl⟩
  have hSl : S.length = 32 := by rw [hS, keyed_length]
  have HSl := Lib.hid hSl
  have HSS := Lib.hid hS
  have hRo := Rd.of_own hO3
  have hlt3 : w.heap.size < w3.heap.size := hN3.lt
  clear hSl hN2 hBw2 hB2 hO2 hB3 hg3 hO3 hR2
  refine (rsum_any A3 (32 + n) c3 _ w3 hRo (by omega)).mono ?_
  rintro e w4 ⟨rfl, hB4⟩
  have e1 : Sha.sum (List.replicate 28 0 ++ putNum kind 4 false ++ b) = S := by rw [hS]; rfl
  rw [e1]
  have hN4 := hN3.below hB4 hlt3
  have hBw4 := hBw3.trans (hB4.mono (Nat.le_of_lt hlt3))
  clear hS e1 hN3 hBw3 hB4 hRo
  go_wp2_with ((with_reducible refine at_store 39 ?_); refine wpList_storeAll _ rfl 39 _ _ rfl w.heap.size 39 _ (bcells S).toArray hN4 rfl rfl (by rw [List.size_toArray, bcells_length, HSl.out]; kernel_rfl) (by rw [List.size_toArray, bcells_length, HSl.out]; kernel_rfl) (fun v hv => bcells_one _ v (by simpa using hv)) ?_; intro w6 h14 hg6 hs6)
  refine bodyPost_ret (results_cell_row rfl _ _ w.heap.size _ _ _ _ rfl h14 Tryz.underlying39 rfl (by rw [List.size_toArray, bcells_length, HSl.out]; kernel_rfl)) rfl ⟨by rw [HSS.out], ?_⟩
  exact grown_below hBw4 hg6 hBw4.size (Nat.le_refl _)

theorem head_splice (kind : Nat) : (splice (bcells znode).toArray.toList 28 ((bcells ([] ++ putAll [kind] 4 false)).take 4)).toArray = (bcells (List.replicate 28 0 ++ putNum kind 4 false)).toArray := by
  have e : ([] ++ putAll [kind] 4 false : List UInt8) = putNum kind 4 false := by simp [putAll]
  rw [e]
  refine congrArg List.toArray ?_
  have hl : (bcells (putNum kind 4 false)).length = 4 := by rw [bcells_length, putNum_length]
  rw [List.take_of_length_le (by omega)]
  unfold splice
  rw [hl]
  have h1 : (bcells znode).toArray.toList.take 28 = bcells (List.replicate 28 0) := by kernel_rfl
  have h2 : (bcells znode).toArray.toList.drop (28 + 4) = [] := by kernel_rfl
  rw [h1, h2, List.append_nil, bcells_append]
theorem run_build32 (w : World) (k : Nat) : (Instr.buildSlice 29 1 #[(0, .int .u32 (k : Int))]).run Tryz.prog w = .ok (.slice (some ⟨w.heap.size, 0, none⟩) 1 1) (w.alloc (.cells #[.int .u32 (k : Int)] 23)) := by
  have := run_buildSlice_all (P := Tryz.prog) w el32 1 #[(0, .int .u32 (k : Int))] [.int .u32 (k : Int)] rfl rfl (by omega) (by omega) (by simp [Value.cells])
  simpa [flat, Value.cells] using this
theorem vals_one (ps : List Bs) : ∀ v ∈ ps.map Bs.val, v.oneCell' = true := by
  intro v hv; simp only [List.mem_map] at hv; obtain ⟨b, _, rfl⟩ := hv; rfl

set_option maxRecDepth 100000 in
set_option maxHeartbeats 2000000 in
theorem mkeyed_any (kind : Nat) (hk : kind < 4294967296) (A : Option Addr) (m c : Nat) (ps : List Bs) (w : World) (hRd : Rd w w.heap.size 1 A m (ps.map Bs.val)) (hp : ∀ b ∈ ps, b.ok w w.heap.size) (hcc : ∀ b ∈ ps, b.n ≤ b.c ∧ b.c ≤ 9223372036854775807)
    (ht : Bs.tot ps ≤ 900000) (hm : m ≤ 1000) (hT : Tabs w) :
    Calls Tryz.prog 119 #[.int .u32 (kind : Int), .slice A m c] w fun e w' => e = .returned (.agg (bcells (keyed kind (Bs.all ps))).toArray) ∧ Below w.heap.size w w' := by
  have hz := zeroNode
  have hz2 : ∀ W, (zeroValue 38).run Tryz.prog W = .ok (.agg (bcells znode).toArray) W := fun W => by kernel_rfl
  have hN := (Blk.new w 39 zn).alloc (.cells (bcells znode).toArray 38)
  have hhd := blk_new1 w (.cells zn 39) 38 (bcells znode).toArray
  have hB0 : Below w.heap.size w ((w.alloc (.cells zn 39)).alloc (.cells (bcells znode).toArray 38)) := ((Below.refl _ _).alloc (Nat.le_refl _) _).alloc (by simp) _
  have HK := Lib.hid hk
  clear hk
  go_enter Tryz.func119, Tryz.ntmps119
  go_wp2_with fail
  generalize (w.alloc (.cells zn 39)).alloc (.cells (bcells znode).toArray 38) = W0 at *
  have hsz : w.heap.size + 1 ≤ W0.drew.heap.size := Nat.le_of_lt hhd.lt
  clear hz hz2
  refine Flow.wp_region_flow (w.heap.size + 1) [(4, fun b => b = w.heap.size + 1)] [(4, fun W => Blk W (w.heap.size + 1) 38 ((bcells znode).toArray))] (by kernel_rfl) (by kernel_rfl) hsz (Flow.nz_cons (by rintro b rfl; exact Nat.le_refl _) Flow.nz_nil) (Flow.facts_cons (hhd.drew) (Flow.kept_blk id) (Flow.fz_cons (Flow.no_follow (by kernel_rfl)) Flow.fz_nil) Flow.facts_nil) ?_
  refine Flow.pass_val (.slice (some ⟨w.heap.size + 1, 28, none⟩) 4 4) (Flow.met_none rfl) (fun a W hH => ?_) ?_
  · have e0 := Flow.see_old 5 hH.sees (by kernel_rfl) (by kernel_rfl) rfl
    go_simp; first | done | rfl
  refine Flow.pass_old 0 (Flow.met_none rfl) (.inl rfl) (by kernel_rfl) (by kernel_rfl) rfl ?_
  refine Flow.pass_lin [4] (fun v W => ∃ b, v = .slice (some ⟨b, 0, none⟩) 1 1 ∧ Blk W b 23 #[.int .u32 (kind : Int)]) (Flow.kept_lin [4] (fun _ _ _ c ⟨b, h1, h2⟩ => ⟨b, h1, h2.ext c.ext⟩) (Flow.lz_cons (fun _ => .inl rfl) Flow.lz_nil)) (Flow.met_none rfl) (fun a W hH => ?_) ?_
  · have e0 := Flow.see_new 7 1 hH.sees (by kernel_rfl) (by kernel_rfl) rfl rfl
    refine Flow.wp_run (Flow.reg_buildSlice _ rfl (by simp [Act.eval, e0]) (run_build32 W kind)) ?_
    exact ⟨_, rfl, Chg.of_ext ((Ext.refl W).alloc _), W.heap.size, rfl, Blk.new _ _ _⟩
  refine Flow.pass_lin [4] (Flow.bytesC (0 + 4 * 1) ([] ++ putAll [kind] 4 false)) (Flow.kept_lin [4] (Flow.kept_bytesC _ _) (Flow.lz_cons (fun _ => .inl rfl) Flow.lz_nil)) (Flow.met_none rfl) (fun a W hH => ?_) ?_
  · obtain ⟨b0, e0, q0⟩ := Flow.see_lin 8 2 hH.sees (by kernel_rfl) (by kernel_rfl) rfl rfl (by kernel_rfl)
    refine Flow.wp_callZ rfl Tryz.func120 rfl (by kernel_rfl) (by simp [Act.eval, e0]) (putBe32_any none 0 0 [] W (some ⟨b0, 0, none⟩) 1 1 [kind] (Rd.nil _ _ _ _) (by omega) (q0.rd rfl) (by omega)) ?_
    rintro e w' ⟨A9, c9, rfl, hO, hB⟩
    exact ⟨_, rfl, Chg.of_ext hB, A9, c9, rfl, Flow.own_le hO, Rd.of_own hO⟩
  refine Flow.pass_list (fun _ W => Blk W (w.heap.size + 1) 38 (bcells (List.replicate 28 0 ++ putNum kind 4 false)).toArray) (Flow.kept_of (fun _ _ _ c h => h.chg c id) (Flow.kz_cons (Flow.no_follow (by kernel_rfl)) Flow.kz_nil)) (Flow.met_none rfl) (fun a W hH => ?_) ?_
  · have e0 := Flow.see_new 6 0 hH.sees (by kernel_rfl) (by kernel_rfl) rfl rfl
    obtain ⟨A1, c1, e1, q1⟩ := Flow.see_lin 9 3 hH.sees (by kernel_rfl) (by kernel_rfl) rfl rfl (by kernel_rfl)
    have fa0 : (fun W => Blk W (w.heap.size + 1) 38 ((bcells znode).toArray)) W := hH.fact _ (List.mem_of_getElem? (i := 0) rfl) rfl
    refine wpList_copyAt W Tryz.underlying22 (by kernel_rfl) rfl _ _ rfl (w.heap.size + 1) 28 _ fa0 (some ⟨w.heap.size + 1, 28, none⟩) 4 4 (by simpa [Act.eval] using e0) _ A1 4 c1 _ (by simpa [Act.eval] using e1) q1.2 (bcells_one _) 4 rfl (fun _ => rfl) (by simp [bcells_length, znode]) ?_
    intro W2 h2 hg _
    rw [head_splice kind] at h2
    exact Flow.qq_nil ⟨_, rfl, Chg.grown hg (by rintro k h; cases h; rfl), h2⟩
  refine Flow.pass_end [none, none, none, none, none, none, some 6, some 7, some 8, some 9, some 10, none, none, none, none, none] (by kernel_rfl) ?_
  intro f gg w9 hB9 hfa hT' hfg
  have h4 := hT' 4 _ (by kernel_rfl) rfl
  have hN9 := hN.drew.below hB9 (Nat.lt_succ_self _)
  have hBw9 := hB0.drew.trans (hB9.mono (Nat.le_succ _))
  clear hfa hT' hfg hN hB0 hhd hB9
  simp only [Reg.sel]
  have hp9 : ∀ b ∈ ps, b.ok w9 w.heap.size := fun b hb => (hp b hb).below hBw9
  have hR9 := hRd.below hBw9
  have hT9 := hT.below hBw9
  have hs9 : w.heap.size + 1 < w9.heap.size := h4.lt
  clear hp hRd hT hsz
  go_wp2_with (at_builtin; refine wpList_app _ elBB rfl _ _ rfl w9.heap.size (some ⟨w9.heap.size, 0, none⟩) 1 1 [.slice (some ⟨w.heap.size + 1, 0, none⟩) 32 32] rfl ((Blk.new w9 22 #[.slice (some ⟨w.heap.size + 1, 0, none⟩) 32 32]).own (Nat.le_refl _) rfl (Nat.le_refl _) (by omega)) w.heap.size A m c (ps.map Bs.val) rfl (hR9.alloc (by omega) _) (vals_one ps) (by omega) (by omega) (by simp) ?_; intro A3 c3 w10 hO3 hg3 hB3 _)
  have hBa : Below w9.heap.size w9 w10 := ((Below.refl _ _).alloc (Nat.le_refl _) _).trans hB3
  have h5 := h4.below hBa h4.lt
  have hN10 := hN9.below hBa (by omega)
  have hBw10 := hBw9.trans (hBa.mono (by omega))
  have hs10 : w9.heap.size ≤ w10.heap.size := hBa.size
  have hT10 := hT9.below hBa
  obtain ⟨hd, hhd⟩ : ∃ hd : Bs, hd = ⟨some ⟨w.heap.size + 1, 0, none⟩, 32, 32, List.replicate 28 0 ++ putNum kind 4 false⟩ := ⟨_, rfl⟩
  have hpl : (List.replicate 28 0 ++ putNum kind 4 false).length = 32 := by simp [putNum_length]
  have hhr : Rd w10 w10.heap.size 1 (some ⟨w.heap.size + 1, 0, none⟩) 32 (bcells (List.replicate 28 0 ++ putNum kind 4 false)) := by
    have := h5.rd (size := 1) (n := 32) (by rw [List.size_toArray, bcells_length, hpl])
    simpa using this
  have hp10 : ∀ b ∈ hd :: ps, b.ok w10 w10.heap.size := by
    intro b hb
    rcases List.mem_cons.1 hb with rfl | hb
    · rw [hhd]; exact hhr
    · exact Rd.more ((hp9 b hb).below (hBa.mono (by omega))) (by omega)
  have hcc10 : ∀ b ∈ hd :: ps, b.n ≤ b.c ∧ b.c ≤ 9223372036854775807 := by
    intro b hb
    rcases List.mem_cons.1 hb with rfl | hb
    · rw [hhd]; exact ⟨Nat.le_refl _, by show 32 ≤ _; omega⟩
    · exact hcc b hb
  have hrow : [Value.slice (some ⟨w.heap.size + 1, 0, none⟩) 32 32] ++ ps.map Bs.val = (hd :: ps).map Bs.val := by rw [hhd]; rfl
  rw [hrow] at hO3
  have hR10 := Rd.of_own hO3
  have htot : Bs.tot (hd :: ps) = 32 + Bs.tot ps := by rw [hhd]; simp [Bs.tot]
  have hall : Sha.sum (Bs.all (hd :: ps)) = keyed kind (Bs.all ps) := by
    rw [hhd]; simp [Bs.all, keyed]
  obtain ⟨S, hS⟩ : ∃ S, S = keyed kind (Bs.all ps) := ⟨_, rfl⟩
  have hSl : S.length = 32 := by rw [hS, keyed_length]
  rw [← hS] at hall
  have HSl := Lib.hid hSl
  have HSS := Lib.hid hS
  have Htot := Lib.hid htot
  have Hall := Lib.hid hall
  have hNlt : w.heap.size < w10.heap.size := hN10.lt
  clear hSl hS htot hall hrow hhr hpl hhd hp9 hR9 hT9 hN9 hBw9 hg3 hB3 hO3 h4 h5 hBa
  refine (sum_any A3 (1 + m) c3 (hd :: ps) w10 hR10 hp10 hcc10 (by rw [Htot.out]; omega) (by omega) hT10).mono ?_
  rintro e w11 ⟨rfl, hB11⟩
  rw [Hall.out]
  have hN11 := hN10.below hB11 hNlt
  have hBw11 := hBw10.trans (hB11.mono hBw10.size)
  clear hR10 hp10 hcc10 hT10 hN10 hBw10 hB11
  go_wp2_with ((with_reducible refine at_store 39 ?_); refine wpList_storeAll _ rfl 39 _ _ rfl w.heap.size 39 _ (bcells S).toArray hN11 rfl rfl (by rw [List.size_toArray, bcells_length, HSl.out]; kernel_rfl) (by rw [List.size_toArray, bcells_length, HSl.out]; kernel_rfl) (fun v hv => bcells_one _ v (by simpa using hv)) ?_; intro w12 h14 hg6 hs6)
  refine bodyPost_ret (results_cell_row rfl _ _ w.heap.size _ _ _ _ rfl h14 Tryz.underlying39 rfl (by rw [List.size_toArray, bcells_length, HSl.out]; kernel_rfl)) rfl ⟨by rw [HSS.out], ?_⟩
  exact grown_below hBw11 hg6 hBw11.size (Nat.le_refl _)
end Go.Proofs.YtipdmhppadapkaaGreatDoor
/-
  Walks: prf.F, prf.H.
-/
namespace Go.Proofs.YtipdmhppadapkaaGreatDoor
open Go.RowKit Sha

theorem run_bs2 (w : World) (A : Option Addr) (n c : Nat) (A2 : Option Addr) (n2 c2 : Nat) : (Instr.buildSlice 153 2 #[(0, .slice A n c), (1, .slice A2 n2 c2)]).run Tryz.prog w = .ok (.slice (some ⟨w.heap.size, 0, none⟩) 2 2) (w.alloc (.cells #[.slice A n c, .slice A2 n2 c2] 22)) := by
  have := run_buildSlice_all (P := Tryz.prog) w elBB 2 #[(0, .slice A n c), (1, .slice A2 n2 c2)] [.slice A n c, .slice A2 n2 c2] rfl rfl (by omega) (by omega) (by simp [Value.cells])
  simpa [flat, Value.cells] using this
theorem run_bs3 (w : World) (A : Option Addr) (n c : Nat) (A2 : Option Addr) (n2 c2 : Nat) (A3 : Option Addr) (n3 c3 : Nat) : (Instr.buildSlice 153 3 #[(0, .slice A n c), (1, .slice A2 n2 c2), (2, .slice A3 n3 c3)]).run Tryz.prog w = .ok (.slice (some ⟨w.heap.size, 0, none⟩) 3 3) (w.alloc (.cells #[.slice A n c, .slice A2 n2 c2, .slice A3 n3 c3] 22)) := by
  have := run_buildSlice_all (P := Tryz.prog) w elBB 3 #[(0, .slice A n c), (1, .slice A2 n2 c2), (2, .slice A3 n3 c3)] [.slice A n c, .slice A2 n2 c2, .slice A3 n3 c3] rfl rfl (by omega) (by omega) (by simp [Value.cells])
  simpa [flat, Value.cells] using this
theorem rdN {B : Nat} {w W : World} {A : Option Addr} {l : List UInt8} (h : Rd w B 1 A 32 (bcells l)) (hb : Below B w W) (hB : B ≤ w.heap.size := by assumption) : Rd W W.heap.size 1 A 32 (bcells l) := (h.below hb).more (Nat.le_trans hB hb.size)
theorem ok2 {W : World} {A A2 : Option Addr} {c c2 : Nat} {l l2 : List UInt8} (h : Rd W W.heap.size 1 A 32 (bcells l)) (h2 : Rd W W.heap.size 1 A2 32 (bcells l2)) : ∀ b ∈ [(⟨A, 32, c, l⟩ : Bs), ⟨A2, 32, c2, l2⟩], b.ok W W.heap.size := by
  intro b hb; simp only [List.mem_cons, List.not_mem_nil, or_false] at hb; rcases hb with rfl | rfl <;> assumption
theorem ok3 {W : World} {A A2 A3 : Option Addr} {c c2 c3 : Nat} {l l2 l3 : List UInt8} (h : Rd W W.heap.size 1 A 32 (bcells l)) (h2 : Rd W W.heap.size 1 A2 32 (bcells l2)) (h3 : Rd W W.heap.size 1 A3 32 (bcells l3)) : ∀ b ∈ [(⟨A, 32, c, l⟩ : Bs), ⟨A2, 32, c2, l2⟩, ⟨A3, 32, c3, l3⟩], b.ok W W.heap.size := by
  intro b hb; simp only [List.mem_cons, List.not_mem_nil, or_false] at hb; rcases hb with rfl | rfl | rfl <;> assumption
theorem cap2 (A A2 : Option Addr) (l l2 : List UInt8) : ∀ b ∈ [(⟨A, 32, 32, l⟩ : Bs), ⟨A2, 32, 32, l2⟩], b.n ≤ b.c ∧ b.c ≤ 9223372036854775807 := by
  intro b hb; simp only [List.mem_cons, List.not_mem_nil, or_false] at hb; rcases hb with rfl | rfl <;> simp
theorem cap3 (A A2 A3 : Option Addr) (l l2 l3 : List UInt8) : ∀ b ∈ [(⟨A, 32, 32, l⟩ : Bs), ⟨A2, 32, 32, l2⟩, ⟨A3, 32, 32, l3⟩], b.n ≤ b.c ∧ b.c ≤ 9223372036854775807 := by
  intro b hb; simp only [List.mem_cons, List.not_mem_nil, or_false] at hb; rcases hb with rfl | rfl | rfl <;> simp
def fH (k m : List UInt8) : List UInt8 := keyed 0 (k ++ m)
def hH2 (k l r : List UInt8) : List UInt8 := keyed 1 (k ++ l ++ r)

set_option maxRecDepth 100000 in
set_option maxHeartbeats 1000000 in
theorem mf_any (k m : List UInt8) (hk : k.length = 32) (hm : m.length = 32) (w : World) (hT : Tabs w) :
    Calls Tryz.prog 170 #[.agg (bcells k).toArray, .agg (bcells m).toArray] w fun e w' => e = .returned (.agg (bcells (fH k m)).toArray) ∧ Below w.heap.size w w' := by
  have hz := zeroNode
  have hB0 : 0 < w.heap.size + 2 := by have := hT.first.lt; omega
  have hB1 : 1 < w.heap.size + 2 := by have := hT.rounds.lt; omega
  obtain ⟨S, hS⟩ : ∃ S, S = fH k m := ⟨_, rfl⟩
  rw [← hS]
  have HSl : Hid (S.length = 32) := Lib.hid (by rw [hS]; exact keyed_length _ _)
  have hSe : Hid (keyed 0 (Bs.all [⟨some ⟨w.heap.size, 0, none⟩, 32, 32, k⟩, ⟨some ⟨w.heap.size + 1, 0, none⟩, 32, 32, m⟩]) = S) := Lib.hid (by rw [hS]; simp [Bs.all, fH])
  have hA0 := (((Blk.new w 39 (bcells k).toArray).alloc (.cells (bcells m).toArray 39)).alloc (.cells zn 39))
  have hC0 := (blk_new1 w (.cells (bcells k).toArray 39) 39 (bcells m).toArray).alloc (.cells zn 39)
  have hN := blk_new2 w (.cells (bcells k).toArray 39) (.cells (bcells m).toArray 39) 39 zn
  have hB : Below w.heap.size w (((w.alloc (.cells (bcells k).toArray 39)).alloc (.cells (bcells m).toArray 39)).alloc (.cells zn 39)) := (((Below.refl _ _).alloc (Nat.le_refl _) _).alloc (by simp) _).alloc (by simp; omega) _
  have hT0' := ((hT.alloc (.cells (bcells k).toArray 39)).alloc (.cells (bcells m).toArray 39)).alloc (.cells zn 39)
  go_enter Tryz.func170, Tryz.ntmps170
  go_wp2_with fail
  generalize ((w.alloc (.cells (bcells k).toArray 39)).alloc (.cells (bcells m).toArray 39)).alloc (.cells zn 39) = W0 at *
  have hsz : w.heap.size + 2 ≤ W0.drew.heap.size := Nat.le_of_lt hN.lt
  have hA : Rd W0.drew (w.heap.size + 2) 1 (some ⟨w.heap.size, 0, none⟩) 32 (bcells k) := (hA0.drew.rdB 32 (by simp [bcells_length, hk]) (by omega))
  have hC : Rd W0.drew (w.heap.size + 2) 1 (some ⟨w.heap.size + 1, 0, none⟩) 32 (bcells m) := (hC0.drew.rdB 32 (by simp [bcells_length, hm]) (by omega))
  have hT0 := hT0'.drew
  clear hS hz hT hT0' hA0 hC0
  refine Flow.wp_region_flow (w.heap.size + 2) [(4, fun b => b = w.heap.size + 2)] [(4, fun W => Blk W (w.heap.size + 2) 39 (zn))] (by kernel_rfl) (by kernel_rfl) hsz (Flow.nz_cons (by rintro b rfl; exact Nat.le_refl _) Flow.nz_nil) (Flow.facts_cons (hN.drew) (Flow.kept_blk id) (Flow.fz_cons (Flow.no_follow (by kernel_rfl)) Flow.fz_nil) Flow.facts_nil) ?_
  refine Flow.pass_val (.slice (some ⟨w.heap.size, 0, none⟩) 32 32) (Flow.met_none rfl) (fun a W hH => ?_) ?_
  · have e0 := Flow.see_old 2 hH.sees (by kernel_rfl) (by kernel_rfl) rfl
    go_simp; first | done | rfl
  refine Flow.pass_val (.slice (some ⟨w.heap.size + 1, 0, none⟩) 32 32) (Flow.met_none rfl) (fun a W hH => ?_) ?_
  · have e0 := Flow.see_old 3 hH.sees (by kernel_rfl) (by kernel_rfl) rfl
    go_simp; first | done | rfl
  refine Flow.pass_lin [4] (fun v W => ∃ b, v = .slice (some ⟨b, 0, none⟩) 2 2 ∧ Blk W b 22 #[.slice (some ⟨w.heap.size, 0, none⟩) 32 32, .slice (some ⟨w.heap.size + 1, 0, none⟩) 32 32]) (Flow.kept_lin [4] (fun _ _ _ c ⟨b, h1, h2⟩ => ⟨b, h1, h2.ext c.ext⟩) (Flow.lz_cons (fun _ => .inl rfl) Flow.lz_nil)) (Flow.met_none rfl) (fun a W hH => ?_) ?_
  · have e0 := Flow.see_new 5 0 hH.sees (by kernel_rfl) (by kernel_rfl) rfl rfl
    have e1 := Flow.see_new 6 1 hH.sees (by kernel_rfl) (by kernel_rfl) rfl rfl
    refine Flow.wp_run (Flow.reg_buildSlice _ rfl (by simp [Act.eval, e0, e1]) (run_bs2 W (some ⟨w.heap.size, 0, none⟩) 32 32 (some ⟨w.heap.size + 1, 0, none⟩) 32 32)) ?_
    exact ⟨_, rfl, Chg.of_ext ((Ext.refl W).alloc _), W.heap.size, rfl, Blk.new _ _ _⟩
  refine Flow.pass_step (Reg.eqs (.agg (bcells S).toArray)) (fun _ _ => Flow.kept_eqs _ _) (Flow.met_none rfl) (fun a W hH => ?_) ?_
  · obtain ⟨b0, e0, q0⟩ := Flow.see_lin 7 2 hH.sees (by kernel_rfl) (by kernel_rfl) rfl rfl (by kernel_rfl)
    refine Reg.wp_call rfl Tryz.func119 rfl (by kernel_rfl) (by simp [Act.eval, e0]) (mkeyed_any 0 (by decide) (some ⟨b0, 0, none⟩) 2 2 [⟨some ⟨w.heap.size, 0, none⟩, 32, 32, k⟩, ⟨some ⟨w.heap.size + 1, 0, none⟩, 32, 32, m⟩] W (q0.rd rfl) (ok2 (rdN hA hH.below) (rdN hC hH.below)) (cap2 _ _ _ _) (by simp [Bs.tot]) (by omega) (hT0.under hH.below hB1 hB0)) ?_
    rintro e w' ⟨rfl, hB⟩
    rw [hSe.out]
    exact ⟨_, rfl, _, rfl, hB, rfl⟩
  refine Flow.pass_list (fun _ W => Blk W (w.heap.size + 2) 39 (bcells S).toArray) (Flow.kept_of (fun _ _ _ c h => h.chg c id) (Flow.kz_cons (Flow.no_follow (by kernel_rfl)) Flow.kz_nil)) (Flow.met_none rfl) (fun a W hH => ?_) ?_
  · have e0 := Flow.see_old 4 hH.sees (by kernel_rfl) (by kernel_rfl) rfl
    have e1 := Flow.see_new 8 3 hH.sees (by kernel_rfl) (by kernel_rfl) rfl rfl
    have fa0 : (fun W => Blk W (w.heap.size + 2) 39 (zn)) W := hH.fact _ (List.mem_of_getElem? (i := 0) rfl) rfl
    refine wpList_storeAll W rfl 39 _ _ rfl (w.heap.size + 2) 39 _ (bcells S).toArray fa0 (by simpa [Act.eval] using e0) (by simpa [Act.eval] using e1) (by rw [List.size_toArray, bcells_length, HSl.out]; kernel_rfl) (by rw [List.size_toArray, bcells_length, HSl.out]; kernel_rfl) (fun v hv => bcells_one _ v (by simpa using hv)) ?_
    intro W2 h2 hg _
    exact Flow.qq_nil ⟨_, rfl, Chg.grown hg (by rintro k h; cases h; rfl), h2⟩
  refine Flow.pass_end [none, none, none, none, none, some 5, some 6, some 7, some 8] (by kernel_rfl) ?_
  intro f gg w9 hB9 hfa hT' hfg
  have h4 := hT' 4 _ (by kernel_rfl) rfl
  have hBw9 := hB.drew.trans (hB9.mono (by omega))
  clear hfa hT' hfg hB hB9 hN
  simp only [Reg.sel]
  go_wp2
  refine bodyPost_ret (results_cell_row rfl _ _ (w.heap.size + 2) _ _ _ _ rfl h4 Tryz.underlying39 rfl (by rw [List.size_toArray, bcells_length, HSl.out]; kernel_rfl)) rfl ⟨rfl, hBw9⟩

set_option maxRecDepth 100000 in
set_option maxHeartbeats 1000000 in
theorem mh_any (k l r : List UInt8) (hk : k.length = 32) (hl : l.length = 32) (hr : r.length = 32) (w : World) (hT : Tabs w) :
    Calls Tryz.prog 148 #[.agg (bcells k).toArray, .agg (bcells l).toArray, .agg (bcells r).toArray] w fun e w' => e = .returned (.agg (bcells (hH2 k l r)).toArray) ∧ Below w.heap.size w w' := by
  have hz := zeroNode
  have hB0 : 0 < w.heap.size + 3 := by have := hT.first.lt; omega
  have hB1 : 1 < w.heap.size + 3 := by have := hT.rounds.lt; omega
  obtain ⟨S, hS⟩ : ∃ S, S = hH2 k l r := ⟨_, rfl⟩
  rw [← hS]
  have HSl : Hid (S.length = 32) := Lib.hid (by rw [hS]; exact keyed_length _ _)
  have hSe : Hid (keyed 1 (Bs.all [⟨some ⟨w.heap.size, 0, none⟩, 32, 32, k⟩, ⟨some ⟨w.heap.size + 1, 0, none⟩, 32, 32, l⟩, ⟨some ⟨w.heap.size + 2, 0, none⟩, 32, 32, r⟩]) = S) := Lib.hid (by rw [hS]; simp [Bs.all, hH2])
  have hA0 := (((Blk.new w 39 (bcells k).toArray).alloc (.cells (bcells l).toArray 39)).alloc (.cells (bcells r).toArray 39)).alloc (.cells zn 39)
  have hC0 := ((blk_new1 w (.cells (bcells k).toArray 39) 39 (bcells l).toArray).alloc (.cells (bcells r).toArray 39)).alloc (.cells zn 39)
  have hD0 := (blk_new2 w (.cells (bcells k).toArray 39) (.cells (bcells l).toArray 39) 39 (bcells r).toArray).alloc (.cells zn 39)
  have hN := blk_new3 w (.cells (bcells k).toArray 39) (.cells (bcells l).toArray 39) (.cells (bcells r).toArray 39) 39 zn
  have hB : Below w.heap.size w ((((w.alloc (.cells (bcells k).toArray 39)).alloc (.cells (bcells l).toArray 39)).alloc (.cells (bcells r).toArray 39)).alloc (.cells zn 39)) := ((((Below.refl _ _).alloc (Nat.le_refl _) _).alloc (by simp) _).alloc (by simp; omega) _).alloc (by simp; omega) _
  have hT0' := (((hT.alloc (.cells (bcells k).toArray 39)).alloc (.cells (bcells l).toArray 39)).alloc (.cells (bcells r).toArray 39)).alloc (.cells zn 39)
  go_enter Tryz.func148, Tryz.ntmps148
  go_wp2_with fail
  generalize (((w.alloc (.cells (bcells k).toArray 39)).alloc (.cells (bcells l).toArray 39)).alloc (.cells (bcells r).toArray 39)).alloc (.cells zn 39) = W0 at *
  have hsz : w.heap.size + 3 ≤ W0.drew.heap.size := Nat.le_of_lt hN.lt
  have hA : Rd W0.drew (w.heap.size + 3) 1 (some ⟨w.heap.size, 0, none⟩) 32 (bcells k) := (hA0.drew.rdB 32 (by simp [bcells_length, hk]) (by omega))
  have hC : Rd W0.drew (w.heap.size + 3) 1 (some ⟨w.heap.size + 1, 0, none⟩) 32 (bcells l) := (hC0.drew.rdB 32 (by simp [bcells_length, hl]) (by omega))
  have hD : Rd W0.drew (w.heap.size + 3) 1 (some ⟨w.heap.size + 2, 0, none⟩) 32 (bcells r) := (hD0.drew.rdB 32 (by simp [bcells_length, hr]) (by omega))
  have hT0 := hT0'.drew
  clear hS hz hT hT0' hA0 hC0 hD0
  refine Flow.wp_region_flow (w.heap.size + 3) [(5, fun b => b = w.heap.size + 3)] [(5, fun W => Blk W (w.heap.size + 3) 39 (zn))] (by kernel_rfl) (by kernel_rfl) hsz (Flow.nz_cons (by rintro b rfl; exact Nat.le_refl _) Flow.nz_nil) (Flow.facts_cons (hN.drew) (Flow.kept_blk id) (Flow.fz_cons (Flow.no_follow (by kernel_rfl)) Flow.fz_nil) Flow.facts_nil) ?_
  refine Flow.pass_val (.slice (some ⟨w.heap.size, 0, none⟩) 32 32) (Flow.met_none rfl) (fun a W hH => ?_) ?_
  · have e0 := Flow.see_old 3 hH.sees (by kernel_rfl) (by kernel_rfl) rfl
    go_simp; first | done | rfl
  refine Flow.pass_val (.slice (some ⟨w.heap.size + 1, 0, none⟩) 32 32) (Flow.met_none rfl) (fun a W hH => ?_) ?_
  · have e0 := Flow.see_old 4 hH.sees (by kernel_rfl) (by kernel_rfl) rfl
    go_simp; first | done | rfl
  refine Flow.pass_val (.slice (some ⟨w.heap.size + 2, 0, none⟩) 32 32) (Flow.met_none rfl) (fun a W hH => ?_) ?_
  · have e0 := Flow.see_old 5 hH.sees (by kernel_rfl) (by kernel_rfl) rfl
    go_simp; first | done | rfl
  refine Flow.pass_lin [5] (fun v W => ∃ b, v = .slice (some ⟨b, 0, none⟩) 3 3 ∧ Blk W b 22 #[.slice (some ⟨w.heap.size, 0, none⟩) 32 32, .slice (some ⟨w.heap.size + 1, 0, none⟩) 32 32, .slice (some ⟨w.heap.size + 2, 0, none⟩) 32 32]) (Flow.kept_lin [5] (fun _ _ _ c ⟨b, h1, h2⟩ => ⟨b, h1, h2.ext c.ext⟩) (Flow.lz_cons (fun _ => .inl rfl) Flow.lz_nil)) (Flow.met_none rfl) (fun a W hH => ?_) ?_
  · have e0 := Flow.see_new 7 0 hH.sees (by kernel_rfl) (by kernel_rfl) rfl rfl
    have e1 := Flow.see_new 8 1 hH.sees (by kernel_rfl) (by kernel_rfl) rfl rfl
    have e2 := Flow.see_new 9 2 hH.sees (by kernel_rfl) (by kernel_rfl) rfl rfl
    refine Flow.wp_run (Flow.reg_buildSlice _ rfl (by simp [Act.eval, e0, e1, e2]) (run_bs3 W (some ⟨w.heap.size, 0, none⟩) 32 32 (some ⟨w.heap.size + 1, 0, none⟩) 32 32 (some ⟨w.heap.size + 2, 0, none⟩) 32 32)) ?_
    exact ⟨_, rfl, Chg.of_ext ((Ext.refl W).alloc _), W.heap.size, rfl, Blk.new _ _ _⟩
  refine Flow.pass_step (Reg.eqs (.agg (bcells S).toArray)) (fun _ _ => Flow.kept_eqs _ _) (Flow.met_none rfl) (fun a W hH => ?_) ?_
  · obtain ⟨b0, e0, q0⟩ := Flow.see_lin 10 3 hH.sees (by kernel_rfl) (by kernel_rfl) rfl rfl (by kernel_rfl)
    refine Reg.wp_call rfl Tryz.func119 rfl (by kernel_rfl) (by simp [Act.eval, e0]) (mkeyed_any 1 (by decide) (some ⟨b0, 0, none⟩) 3 3 [⟨some ⟨w.heap.size, 0, none⟩, 32, 32, k⟩, ⟨some ⟨w.heap.size + 1, 0, none⟩, 32, 32, l⟩, ⟨some ⟨w.heap.size + 2, 0, none⟩, 32, 32, r⟩] W (q0.rd rfl) (ok3 (rdN hA hH.below) (rdN hC hH.below) (rdN hD hH.below)) (cap3 _ _ _ _ _ _) (by simp [Bs.tot]) (by omega) (hT0.under hH.below hB1 hB0)) ?_
    rintro e w' ⟨rfl, hB⟩
    rw [hSe.out]
    exact ⟨_, rfl, _, rfl, hB, rfl⟩
  refine Flow.pass_list (fun _ W => Blk W (w.heap.size + 3) 39 (bcells S).toArray) (Flow.kept_of (fun _ _ _ c h => h.chg c id) (Flow.kz_cons (Flow.no_follow (by kernel_rfl)) Flow.kz_nil)) (Flow.met_none rfl) (fun a W hH => ?_) ?_
  · have e0 := Flow.see_old 6 hH.sees (by kernel_rfl) (by kernel_rfl) rfl
    have e1 := Flow.see_new 11 4 hH.sees (by kernel_rfl) (by kernel_rfl) rfl rfl
    have fa0 : (fun W => Blk W (w.heap.size + 3) 39 (zn)) W := hH.fact _ (List.mem_of_getElem? (i := 0) rfl) rfl
    refine wpList_storeAll W rfl 39 _ _ rfl (w.heap.size + 3) 39 _ (bcells S).toArray fa0 (by simpa [Act.eval] using e0) (by simpa [Act.eval] using e1) (by rw [List.size_toArray, bcells_length, HSl.out]; kernel_rfl) (by rw [List.size_toArray, bcells_length, HSl.out]; kernel_rfl) (fun v hv => bcells_one _ v (by simpa using hv)) ?_
    intro W2 h2 hg _
    exact Flow.qq_nil ⟨_, rfl, Chg.grown hg (by rintro k h; cases h; rfl), h2⟩
  refine Flow.pass_end [none, none, none, none, none, none, none, some 7, some 8, some 9, some 10, some 11] (by kernel_rfl) ?_
  intro f gg w9 hB9 hfa hT' hfg
  have h4 := hT' 5 _ (by kernel_rfl) rfl
  have hBw9 := hB.drew.trans (hB9.mono (by omega))
  clear hfa hT' hfg hB hB9 hN
  simp only [Reg.sel]
  go_wp2
  refine bodyPost_ret (results_cell_row rfl _ _ (w.heap.size + 3) _ _ _ _ rfl h4 Tryz.underlying39 rfl (by rw [List.size_toArray, bcells_length, HSl.out]; kernel_rfl)) rfl ⟨rfl, hBw9⟩
end Go.Proofs.YtipdmhppadapkaaGreatDoor
/-
  Walks: portreeveref04.F, H.
-/
namespace Go.Proofs.YtipdmhppadapkaaGreatDoor
open Go.RowKit Sha

section
variable {P : Program} {ops : Array Oper} {rest : List Oper} {o : Oper} {a : Act} {Q : Exit → Act → World → Prop}
/-- append(s, x...) onto a slice that is full: a new row -/
theorem wpList_appFull (w : World) {t e : TypeId} {z : Value} {bytes : Nat} (E : Elem P t e z 1 bytes) (hgd : o.guard = none) (s x : Operand)
    (ho : o.op = .call { callee := .builtin .append, args := #[s, x], argTypes := #[t, t] })
    (B1 : Nat) (ad1 : Addr) (n : Nat) (olds : List Value) (hs : a.eval s = .slice (some ad1) n n) (hr1 : Rd w B1 1 (some ad1) n olds)
    (B2 : Nat) (ad2 : Addr) (m c2 : Nat) (news : List Value) (hx : a.eval x = .slice (some ad2) m c2) (hr2 : Rd w B2 1 (some ad2) m news) (h1 : ∀ u ∈ news, u.oneCell' = true)
    (hm : 0 < m) (h63 : n + m ≤ 9223372036854775807) (hbytes : (n + m) * bytes ≤ 140737488355328)
    (h : ∀ A' c' w', w'.ownsRow w.heap.size e 1 (.slice A' (n + m) c') (n + m) (olds ++ news) → Ext w w' → wpList P ops Q rest (a.put o.dst (.slice A' (n + m) c')) w') : wpList P ops Q (o :: rest) a w := by
  obtain ⟨i, hi, hz, h4, h5⟩ := E.info
  refine wpList_append_grows w hgd s x t ho e i z 1 bytes E.under hi hz h4 h5 E.zs E.pos (some ad1) n n olds hs (fun h => by cases h) (by rw [hr1.len]) (fun b hb j u hu => ?_) ad2 m c2 news hx (by rw [hr2.len]) (fun j u hu => ?_) h1 (by omega) (by simp only [maxLen]; omega) hbytes ?_
  · cases hb
    obtain ⟨a', e', _, hc⟩ := hr1.cell j u hu
    cases e'; exact hc
  · obtain ⟨a', e', _, hc⟩ := hr2.cell j u hu
    cases e'; exact hc
  · intro v' w' h2 h3
    have hex : ∃ A' c', v' = .slice A' (n + m) c' := by
      rcases h2.2 with ⟨e1, e2⟩ | ⟨g, cap, cur, e1, _⟩
      · omega
      · exact ⟨_, _, e1⟩
    obtain ⟨A', c', rfl⟩ := hex
    exact h A' c' w' h2 ((Chg.grown (Z := fun _ => False) h3 (by rintro k hk; cases hk)).ext)
end
set_option maxRecDepth 100000 in
set_option maxHeartbeats 1000000 in
theorem rf_any (k m : List UInt8) (hk' : k.length = 32) (hm' : m.length = 32) (w : World) :
    Calls Tryz.prog 131 #[.agg (bcells k).toArray, .agg (bcells m).toArray] w fun e w' => e = .returned (.agg (bcells (fH k m)).toArray) ∧ Below w.heap.size w w' := by
  have hz := zeroNode
  have hk := Lib.hid hk'
  have hm := Lib.hid hm'
  clear hk' hm'
  obtain ⟨S, hS⟩ : ∃ S, S = fH k m := ⟨_, rfl⟩
  rw [← hS]
  have HSl : Hid (S.length = 32) := Lib.hid (by rw [hS]; exact keyed_length _ _)
  have hSe : Hid (keyed 0 (k ++ m) = S) := Lib.hid (by rw [hS]; rfl)
  have hA0 := (((Blk.new w 39 (bcells k).toArray).alloc (.cells (bcells m).toArray 39)).alloc (.cells zn 39))
  have hC0 := (blk_new1 w (.cells (bcells k).toArray 39) 39 (bcells m).toArray).alloc (.cells zn 39)
  have hN := blk_new2 w (.cells (bcells k).toArray 39) (.cells (bcells m).toArray 39) 39 zn
  have hB : Below w.heap.size w (((w.alloc (.cells (bcells k).toArray 39)).alloc (.cells (bcells m).toArray 39)).alloc (.cells zn 39)) := (((Below.refl _ _).alloc (Nat.le_refl _) _).alloc (by simp) _).alloc (by simp; omega) _
  go_enter Tryz.func131, Tryz.ntmps131
  go_wp2_with fail
  generalize ((w.alloc (.cells (bcells k).toArray 39)).alloc (.cells (bcells m).toArray 39)).alloc (.cells zn 39) = W0 at *
  have hsz : w.heap.size + 2 ≤ W0.drew.heap.size := Nat.le_of_lt hN.lt
  have hsz0 : w.heap.size ≤ W0.drew.heap.size := by omega
  clear hS hz
  refine Flow.wp_region_flow (w.heap.size) [(4, fun b => b = w.heap.size + 2)] [(2, fun W => Blk W w.heap.size 39 ((bcells k).toArray)), (2, fun W => Blk W (w.heap.size + 1) 39 ((bcells m).toArray)), (4, fun W => Blk W (w.heap.size + 2) 39 (zn))] (by kernel_rfl) (by kernel_rfl) hsz0 (Flow.nz_cons (by rintro b rfl; omega) Flow.nz_nil) (Flow.facts_cons (hA0.drew) (Flow.kept_blk id) (Flow.fz_cons (Flow.no_follow (by kernel_rfl)) Flow.fz_nil) (Flow.facts_cons (hC0.drew) (Flow.kept_blk id) (Flow.fz_cons (Flow.no_follow (by kernel_rfl)) Flow.fz_nil) (Flow.facts_cons (hN.drew) (Flow.kept_blk id) (Flow.fz_cons (Flow.no_follow (by kernel_rfl)) Flow.fz_nil) Flow.facts_nil))) ?_
  refine Flow.pass_val (.slice (some ⟨w.heap.size, 0, none⟩) 32 32) (Flow.met_none rfl) (fun a W hH => ?_) ?_
  · have e0 := Flow.see_old 2 hH.sees (by kernel_rfl) (by kernel_rfl) rfl
    go_simp; first | done | rfl
  refine Flow.pass_val (.slice (some ⟨w.heap.size + 1, 0, none⟩) 32 32) (Flow.met_none rfl) (fun a W hH => ?_) ?_
  · have e0 := Flow.see_old 3 hH.sees (by kernel_rfl) (by kernel_rfl) rfl
    go_simp; first | done | rfl
  refine Flow.pass_linlist [4] (fun v W => ∃ A c, v = .slice A (32 + 32) c ∧ Rd W W.heap.size 1 A (32 + 32) (bcells (k ++ m))) (Flow.kept_lin [4] (fun _ _ _ c ⟨A, k, h1, h2⟩ => ⟨A, k, h1, h2.ext c.ext⟩) (Flow.lz_cons (fun _ => .inl rfl) Flow.lz_nil)) (Flow.met_none rfl) (fun a W hH => ?_) ?_
  · have e0 := Flow.see_new 5 0 hH.sees (by kernel_rfl) (by kernel_rfl) rfl rfl
    have e1 := Flow.see_new 6 1 hH.sees (by kernel_rfl) (by kernel_rfl) rfl rfl
    have fa0 : (fun W => Blk W w.heap.size 39 ((bcells k).toArray)) W := hH.fact _ (List.mem_of_getElem? (i := 0) rfl) rfl
    have fa1 : (fun W => Blk W (w.heap.size + 1) 39 ((bcells m).toArray)) W := hH.fact _ (List.mem_of_getElem? (i := 1) rfl) rfl
    refine wpList_appFull W el8 rfl _ _ rfl W.heap.size ⟨w.heap.size, 0, none⟩ 32 (bcells k) (by simpa [Act.eval] using e0) (fa0.rd (by simp [bcells_length, hk.out])) W.heap.size ⟨w.heap.size + 1, 0, none⟩ 32 32 (bcells m) (by simpa [Act.eval] using e1) (fa1.rd (by simp [bcells_length, hm.out])) (bcells_one m) (by omega) (by omega) (by omega) ?_
    intro A' c' W2 hO2 hE
    exact Flow.qq_nil ⟨_, rfl, Chg.of_ext hE, A', c', rfl, by rw [bcells_append]; exact Rd.of_own hO2⟩
  refine Flow.pass_step (Reg.eqs (.agg (bcells S).toArray)) (fun _ _ => Flow.kept_eqs _ _) (Flow.met_none rfl) (fun a W hH => ?_) ?_
  · obtain ⟨A0, c0, e0, q0⟩ := Flow.see_lin 7 2 hH.sees (by kernel_rfl) (by kernel_rfl) rfl rfl (by kernel_rfl)
    refine Reg.wp_call rfl Tryz.func85 rfl (by kernel_rfl) (by simp [Act.eval, e0]) (rkeyed_any 0 (by decide) A0 (32 + 32) c0 (k ++ m) W q0 (by omega)) ?_
    rintro e w' ⟨rfl, hB⟩
    rw [hSe.out]
    exact ⟨_, rfl, _, rfl, hB, rfl⟩
  refine Flow.pass_list (fun _ W => Blk W (w.heap.size + 2) 39 (bcells S).toArray) (Flow.kept_of (fun _ _ _ c h => h.chg c id) (Flow.kz_cons (Flow.no_follow (by kernel_rfl)) Flow.kz_nil)) (Flow.met_none rfl) (fun a W hH => ?_) ?_
  · have e0 := Flow.see_old 4 hH.sees (by kernel_rfl) (by kernel_rfl) rfl
    have e1 := Flow.see_new 8 3 hH.sees (by kernel_rfl) (by kernel_rfl) rfl rfl
    have fa2 : (fun W => Blk W (w.heap.size + 2) 39 (zn)) W := hH.fact _ (List.mem_of_getElem? (i := 2) rfl) rfl
    refine wpList_storeAll W rfl 39 _ _ rfl (w.heap.size + 2) 39 _ (bcells S).toArray fa2 (by simpa [Act.eval] using e0) (by simpa [Act.eval] using e1) (by rw [List.size_toArray, bcells_length, HSl.out]; kernel_rfl) (by rw [List.size_toArray, bcells_length, HSl.out]; kernel_rfl) (fun v hv => bcells_one _ v (by simpa using hv)) ?_
    intro W2 h2 hg _
    exact Flow.qq_nil ⟨_, rfl, Chg.grown hg (by rintro k h; cases h; rfl), h2⟩
  refine Flow.pass_end [none, none, none, none, none, some 5, some 6, some 7, some 8] (by kernel_rfl) ?_
  intro f gg w9 hB9 hfa hT' hfg
  have h4 := hT' 4 _ (by kernel_rfl) rfl
  have hBw9 := hB.drew.trans (hB9)
  clear hfa hT' hfg hB hB9 hN
  simp only [Reg.sel]
  go_wp2
  refine bodyPost_ret (results_cell_row rfl _ _ (w.heap.size + 2) _ _ _ _ rfl h4 Tryz.underlying39 rfl (by rw [List.size_toArray, bcells_length, HSl.out]; kernel_rfl)) rfl ⟨rfl, hBw9⟩

set_option maxRecDepth 100000 in
set_option maxHeartbeats 1000000 in
theorem rh_any (k l r : List UInt8) (hk : k.length = 32) (hl : l.length = 32) (hr : r.length = 32) (w : World) :
    Calls Tryz.prog 129 #[.agg (bcells k).toArray, .agg (bcells l).toArray, .agg (bcells r).toArray] w fun e w' => e = .returned (.agg (bcells (hH2 k l r)).toArray) ∧ Below w.heap.size w w' := by
  have hz := zeroNode
  obtain ⟨S, hS⟩ : ∃ S, S = hH2 k l r := ⟨_, rfl⟩
  rw [← hS]
  have HSl : Hid (S.length = 32) := Lib.hid (by rw [hS]; exact keyed_length _ _)
  have hSe : Hid (keyed 1 ([] ++ k ++ l ++ r) = S) := Lib.hid (by rw [hS]; rfl)
  have hA0 := (((Blk.new w 39 (bcells k).toArray).alloc (.cells (bcells l).toArray 39)).alloc (.cells (bcells r).toArray 39)).alloc (.cells zn 39)
  have hC0 := ((blk_new1 w (.cells (bcells k).toArray 39) 39 (bcells l).toArray).alloc (.cells (bcells r).toArray 39)).alloc (.cells zn 39)
  have hD0 := (blk_new2 w (.cells (bcells k).toArray 39) (.cells (bcells l).toArray 39) 39 (bcells r).toArray).alloc (.cells zn 39)
  have hN := blk_new3 w (.cells (bcells k).toArray 39) (.cells (bcells l).toArray 39) (.cells (bcells r).toArray 39) 39 zn
  have hB : Below w.heap.size w ((((w.alloc (.cells (bcells k).toArray 39)).alloc (.cells (bcells l).toArray 39)).alloc (.cells (bcells r).toArray 39)).alloc (.cells zn 39)) := ((((Below.refl _ _).alloc (Nat.le_refl _) _).alloc (by simp) _).alloc (by simp; omega) _).alloc (by simp; omega) _
  go_enter Tryz.func129, Tryz.ntmps129
  go_wp2_with fail
  generalize (((w.alloc (.cells (bcells k).toArray 39)).alloc (.cells (bcells l).toArray 39)).alloc (.cells (bcells r).toArray 39)).alloc (.cells zn 39) = W0 at *
  have hsz : w.heap.size + 3 ≤ W0.drew.heap.size := Nat.le_of_lt hN.lt
  have hA : Rd W0.drew (w.heap.size + 3) 1 (some ⟨w.heap.size, 0, none⟩) 32 (bcells k) := (hA0.drew.rdB 32 (by simp [bcells_length, hk]) (by omega))
  have hC : Rd W0.drew (w.heap.size + 3) 1 (some ⟨w.heap.size + 1, 0, none⟩) 32 (bcells l) := (hC0.drew.rdB 32 (by simp [bcells_length, hl]) (by omega))
  have hD : Rd W0.drew (w.heap.size + 3) 1 (some ⟨w.heap.size + 2, 0, none⟩) 32 (bcells r) := (hD0.drew.rdB 32 (by simp [bcells_length, hr]) (by omega))
  have hsz3 : w.heap.size + 3 ≤ W0.drew.heap.size := hsz
  have hsz : w.heap.size + 4 ≤ W0.drew.heap.size := hN.lt
  clear hS hz hA0 hC0 hD0
  refine Flow.wp_region_flow (w.heap.size + 3) [(3, fun b => w.heap.size + 4 ≤ b), (5, fun b => w.heap.size + 4 ≤ b), (7, fun b => b = w.heap.size + 3)] [(7, fun W => Blk W (w.heap.size + 3) 39 (zn))] (by kernel_rfl) (by kernel_rfl) hsz3 (Flow.nz_cons (fun b h => by have h2 : w.heap.size + 4 ≤ b := h; omega) (Flow.nz_cons (fun b h => by have h2 : w.heap.size + 4 ≤ b := h; omega) (Flow.nz_cons (by rintro b rfl; omega) Flow.nz_nil))) (Flow.facts_cons (hN.drew) (Flow.kept_blk id) (Flow.fz_cons (fun _ => Flow.kept_blk (by first | assumption | (show ¬ _ = _; first | assumption | omega | (simp; omega)) | (show ¬ (_ ≤ _); omega))) (Flow.fz_cons (fun _ => Flow.kept_blk (by first | assumption | (show ¬ _ = _; first | assumption | omega | (simp; omega)) | (show ¬ (_ ≤ _); omega))) (Flow.fz_cons (Flow.no_follow (by kernel_rfl)) Flow.fz_nil))) Flow.facts_nil) ?_
  refine Flow.pass_val (.slice (some ⟨w.heap.size, 0, none⟩) 32 32) (Flow.met_none rfl) (fun a W hH => ?_) ?_
  · have e0 := Flow.see_old 3 hH.sees (by kernel_rfl) (by kernel_rfl) rfl
    go_simp; first | done | rfl
  refine Flow.pass_linlist [3, 5, 7] (fun v W => ∃ A c, v = .slice A (0 + 32) c ∧ W.ownsRow (w.heap.size + 4) 5 1 (.slice A (0 + 32) c) (0 + 32) (bcells ([] ++ k))) (Flow.kept_lin [3, 5, 7] (fun _ _ _ c ⟨A, k, h1, h2⟩ => ⟨A, k, h1, own_chg h2 c (fun _ _ => id)⟩) (Flow.lz_cons (fun _ => .inl rfl) (Flow.lz_cons (fun _ => .inl rfl) (Flow.lz_cons (fun _ => .inl rfl) Flow.lz_nil)))) (Flow.met_none rfl) (fun a W hH => ?_) ?_
  · have e0 := Flow.see_new 7 0 hH.sees (by kernel_rfl) (by kernel_rfl) rfl rfl
    refine wpList_app W el8 rfl _ _ rfl (w.heap.size + 4) none 0 0 _ (by simp [Act.eval]) (own_nil _ _ _ _) (w.heap.size + 3) (some ⟨w.heap.size, 0, none⟩) 32 32 (bcells k) (by simpa [Act.eval] using e0) (hA.below hH.below) (bcells_one k) (by omega) (by omega) (Nat.le_trans hsz hH.below.size) ?_
    intro A' c' W2 hO2 hg hB _
    exact Flow.qq_nil ⟨_, rfl, Chg.of_ext (Chg.grown (Z := fun _ => False) hg (by rintro j h; cases h)).ext, A', c', rfl, hO2⟩
  refine Flow.pass_val (.slice (some ⟨w.heap.size + 1, 0, none⟩) 32 32) (Flow.met_none rfl) (fun a W hH => ?_) ?_
  · have e0 := Flow.see_old 4 hH.sees (by kernel_rfl) (by kernel_rfl) rfl
    go_simp; first | done | rfl
  refine Flow.pass_linlist [5, 7] (fun v W => ∃ A c, v = .slice A (0 + 32 + 32) c ∧ W.ownsRow (w.heap.size + 4) 5 1 (.slice A (0 + 32 + 32) c) (0 + 32 + 32) (bcells ([] ++ k ++ l))) (Flow.kept_lin [5, 7] (fun _ _ _ c ⟨A, k, h1, h2⟩ => ⟨A, k, h1, own_chg h2 c (fun _ _ => id)⟩) (Flow.lz_cons (Flow.no_follow (by kernel_rfl)) (Flow.lz_cons (fun _ => .inl rfl) (Flow.lz_cons (fun _ => .inl rfl) Flow.lz_nil)))) (Flow.met_none rfl) (fun a W hH => ?_) ?_
  · obtain ⟨A0, c0, e0, q0⟩ := Flow.see_lin 8 1 hH.sees (by kernel_rfl) (by kernel_rfl) rfl rfl (by kernel_rfl)
    have e1 := Flow.see_new 9 2 hH.sees (by kernel_rfl) (by kernel_rfl) rfl rfl
    refine wpList_app W el8 rfl _ _ rfl (w.heap.size + 4) A0 (0 + 32) c0 _ (by simpa [Act.eval] using e0) q0 (w.heap.size + 3) (some ⟨w.heap.size + 1, 0, none⟩) 32 32 (bcells l) (by simpa [Act.eval] using e1) (hC.below hH.below) (bcells_one l) (by omega) (by omega) (Nat.le_trans hsz hH.below.size) ?_
    intro A' c' W2 hO2 hg hB _
    exact Flow.qq_nil ⟨_, rfl, Chg.of_below hB (fun k hk _ => hk), A', c', rfl, by rw [bcells_append]; exact hO2⟩
  refine Flow.pass_val (.slice (some ⟨w.heap.size + 2, 0, none⟩) 32 32) (Flow.met_none rfl) (fun a W hH => ?_) ?_
  · have e0 := Flow.see_old 5 hH.sees (by kernel_rfl) (by kernel_rfl) rfl
    go_simp; first | done | rfl
  refine Flow.pass_linlist [7] (fun v W => ∃ A c, v = .slice A (0 + 32 + 32 + 32) c ∧ W.ownsRow (w.heap.size + 4) 5 1 (.slice A (0 + 32 + 32 + 32) c) (0 + 32 + 32 + 32) (bcells ([] ++ k ++ l ++ r))) (Flow.kept_lin [7] (fun _ _ _ c ⟨A, k, h1, h2⟩ => ⟨A, k, h1, own_chg h2 c (fun _ _ => id)⟩) (Flow.lz_cons (Flow.no_follow (by kernel_rfl)) (Flow.lz_cons (Flow.no_follow (by kernel_rfl)) (Flow.lz_cons (fun _ => .inl rfl) Flow.lz_nil)))) (Flow.met_none rfl) (fun a W hH => ?_) ?_
  · obtain ⟨A0, c0, e0, q0⟩ := Flow.see_lin 10 3 hH.sees (by kernel_rfl) (by kernel_rfl) rfl rfl (by kernel_rfl)
    have e1 := Flow.see_new 11 4 hH.sees (by kernel_rfl) (by kernel_rfl) rfl rfl
    refine wpList_app W el8 rfl _ _ rfl (w.heap.size + 4) A0 (0 + 32 + 32) c0 _ (by simpa [Act.eval] using e0) q0 (w.heap.size + 3) (some ⟨w.heap.size + 2, 0, none⟩) 32 32 (bcells r) (by simpa [Act.eval] using e1) (hD.below hH.below) (bcells_one r) (by omega) (by omega) (Nat.le_trans hsz hH.below.size) ?_
    intro A' c' W2 hO2 hg hB _
    exact Flow.qq_nil ⟨_, rfl, Chg.of_below hB (fun k hk _ => hk), A', c', rfl, by rw [bcells_append]; exact hO2⟩
  refine Flow.pass_step (Reg.eqs (.agg (bcells S).toArray)) (fun _ _ => Flow.kept_eqs _ _) (Flow.met_none rfl) (fun a W hH => ?_) ?_
  · obtain ⟨A0, c0, e0, q0⟩ := Flow.see_lin 12 5 hH.sees (by kernel_rfl) (by kernel_rfl) rfl rfl (by kernel_rfl)
    refine Reg.wp_call rfl Tryz.func85 rfl (by kernel_rfl) (by simp [Act.eval, e0]) (rkeyed_any 1 (by decide) A0 (0 + 32 + 32 + 32) c0 ([] ++ k ++ l ++ r) W (Rd.of_own q0) (by omega)) ?_
    rintro e w' ⟨rfl, hB⟩
    rw [hSe.out]
    exact ⟨_, rfl, _, rfl, hB, rfl⟩
  refine Flow.pass_list (fun _ W => Blk W (w.heap.size + 3) 39 (bcells S).toArray) (Flow.kept_of (fun _ _ _ c h => h.chg c id) (Flow.kz_cons (Flow.no_follow (by kernel_rfl)) (Flow.kz_cons (Flow.no_follow (by kernel_rfl)) (Flow.kz_cons (Flow.no_follow (by kernel_rfl)) Flow.kz_nil)))) (Flow.met_none rfl) (fun a W hH => ?_) ?_
  · have e0 := Flow.see_old 6 hH.sees (by kernel_rfl) (by kernel_rfl) rfl
    have e1 := Flow.see_new 13 6 hH.sees (by kernel_rfl) (by kernel_rfl) rfl rfl
    have fa0 : (fun W => Blk W (w.heap.size + 3) 39 (zn)) W := hH.fact _ (List.mem_of_getElem? (i := 0) rfl) rfl
    refine wpList_storeAll W rfl 39 _ _ rfl (w.heap.size + 3) 39 _ (bcells S).toArray fa0 (by simpa [Act.eval] using e0) (by simpa [Act.eval] using e1) (by rw [List.size_toArray, bcells_length, HSl.out]; kernel_rfl) (by rw [List.size_toArray, bcells_length, HSl.out]; kernel_rfl) (fun v hv => bcells_one _ v (by simpa using hv)) ?_
    intro W2 h2 hg _
    exact Flow.qq_nil ⟨_, rfl, Chg.grown hg (by rintro k h; cases h; rfl), h2⟩
  refine Flow.pass_end [none, none, none, none, none, none, none, some 7, some 8, some 9, some 10, some 11, some 12, some 13] (by kernel_rfl) ?_
  intro f gg w9 hB9 hfa hT' hfg
  have h4 := hT' 7 _ (by kernel_rfl) rfl
  have hBw9 := hB.drew.trans (hB9.mono (by omega))
  clear hfa hT' hfg hB hB9 hN
  simp only [Reg.sel]
  go_wp2
  refine bodyPost_ret (results_cell_row rfl _ _ (w.heap.size + 3) _ _ _ _ rfl h4 Tryz.underlying39 rfl (by rw [List.size_toArray, bcells_length, HSl.out]; kernel_rfl)) rfl ⟨rfl, hBw9⟩
end Go.Proofs.YtipdmhppadapkaaGreatDoor
/-
  Walks: prf.Xor, portreeveref04.Xor.
-/
namespace Go.Proofs.YtipdmhppadapkaaGreatDoor
open Go.RowKit Sha

def xorL (a b : List UInt8) : List UInt8 := List.zipWith (fun x y => x ^^^ y) a b
theorem xorL_length (a b : List UInt8) (ha : a.length = 32) (hb : b.length = 32) : (xorL a b).length = 32 := by simp [xorL, ha, hb]
def xorK (a b : List UInt8) (k : Nat) : List UInt8 := (xorL a b).take k ++ a.drop k
theorem xorK_zero (a b : List UInt8) : xorK a b 0 = a := by simp [xorK]
theorem xorK_all (a b : List UInt8) (ha : a.length = 32) (hb : b.length = 32) : xorK a b 32 = xorL a b := by
  unfold xorK; rw [List.take_of_length_le (by rw [xorL_length a b ha hb]; exact Nat.le_refl _), List.drop_of_length_le (by omega), List.append_nil]
theorem xorK_length (a b : List UInt8) (ha : a.length = 32) (hb : b.length = 32) (k : Nat) (hk : k ≤ 32) : (xorK a b k).length = 32 := by
  unfold xorK; rw [List.length_append, List.length_take, List.length_drop, xorL_length a b ha hb]; omega
theorem xorK_get (a b : List UInt8) (ha : a.length = 32) (hb : b.length = 32) (k : Nat) (hk : k < 32) : (xorK a b k)[k]? = a[k]? := by
  unfold xorK
  rw [List.getElem?_append_right (by rw [List.length_take]; omega), List.length_take, xorL_length a b ha hb, List.getElem?_drop, Nat.min_eq_left (by omega), Nat.sub_self, Nat.add_zero]
theorem xorK_set (a b : List UInt8) (ha : a.length = 32) (hb : b.length = 32) (k : Nat) (hk : k < 32) : (xorK a b k).set k (a[k]?.getD 0 ^^^ b[k]?.getD 0) = xorK a b (k + 1) := by
  unfold xorK
  have hl : ((xorL a b).take k).length = k := by rw [List.length_take, xorL_length a b ha hb]; omega
  rw [List.set_append_right _ _ (by omega), hl, Nat.sub_self, List.drop_eq_getElem_cons (by omega), List.set_cons_zero, List.take_succ_eq_append_getElem (by rw [xorL_length a b ha hb]; exact hk), List.append_assoc]
  congr 2
  simp [xorL, List.getElem?_eq_getElem (show k < a.length by omega), List.getElem?_eq_getElem (show k < b.length by omega)]
theorem u8_xorB (a b : UInt8) : bits .xor .u8 (a.toNat : Int) (b.toNat : Int) = ((a ^^^ b).toNat : Int) := by
  rw [u8_xor_nat _ _ a.toNat_lt b.toNat_lt, UInt8.toNat_xor]
theorem byteIndexN {P : Program} {t e : TypeId} {n : Nat} (hu : P.underlying t = some (.array n e)) (he : P.underlying e = some (.int .u8)) (hs : (P.info? e).map (·.size) = some 1) (l : List UInt8) (h : l.length = n) (k : Nat) (hk : k < n) (w : World) :
    (Instr.index t (.agg (bcells l).toArray) (.int .i64 (k : Int))).run P w = .ok (.int .u8 ((l[k]?.getD 0).toNat : Int)) w := by
  have h1 : (0 : Int) ≤ k ∧ (k : Int) < (n : Int) := by omega
  obtain ⟨inf, hinf, hsz⟩ := Option.map_eq_some_iff.1 hs
  have hS : (sizeOf e).run P w = .ok 1 w := by simp [sizeOf, typeInfo, hinf, hsz]
  have h2 := run_part_byte w he l k (by omega)
  have e : l[k]?.getD 0 = l[k] := by simp [List.getElem?_eq_getElem (show k < l.length by omega)]
  rw [e]
  simp only [Instr.index, asIntOf, Sem.run_bind, Sem.run_pure, Result.andThen_ok, run_underlying hu, if_pos h1, hS, Int.toNat_natCast, Nat.mul_one, h2]
attribute [local go_sem] u8_xorB

set_option maxRecDepth 100000 in
set_option maxHeartbeats 1000000 in
theorem mxor_any (a b : List UInt8) (ha' : a.length = 32) (hb' : b.length = 32) (w : World) :
    Calls Tryz.prog 149 #[.agg (bcells a).toArray, .agg (bcells b).toArray] w fun e w' => e = .returned (.agg (bcells (xorL a b)).toArray) ∧ Below w.heap.size w w' := by
  have hz := zeroNode
  have ha := Lib.hid ha'
  have hb := Lib.hid hb'
  have hA0 := (((Blk.new w 39 (bcells a).toArray).alloc (.cells (bcells b).toArray 39)).alloc (.cells zn 39))
  have hC0 := (blk_new1 w (.cells (bcells a).toArray 39) 39 (bcells b).toArray).alloc (.cells zn 39)
  have hN := blk_new2 w (.cells (bcells a).toArray 39) (.cells (bcells b).toArray 39) 39 zn
  have hB : Below w.heap.size w (((w.alloc (.cells (bcells a).toArray 39)).alloc (.cells (bcells b).toArray 39)).alloc (.cells zn 39)) := (((Below.refl _ _).alloc (Nat.le_refl _) _).alloc (by simp) _).alloc (by simp; omega) _
  clear ha' hb'
  go_enter Tryz.func149, Tryz.ntmps149
  go_wp2_with ((with_reducible refine at_load 39 ?_); refine wpList_loadAll _ rfl 39 _ rfl (w.heap.size + 1) 39 (bcells b).toArray hC0 _ rfl Tryz.underlying39 rfl (by rw [List.size_toArray, bcells_length, hb.out]; kernel_rfl) ?_)
  generalize ((w.alloc (.cells (bcells a).toArray 39)).alloc (.cells (bcells b).toArray 39)).alloc (.cells zn 39) = W0 at *
  clear hz hC0
  go_loopw [8] (fun i wr => ∃ k : Nat, k ≤ 32 ∧ i = .int .i64 k ∧ Blk wr w.heap.size 39 (bcells (xorK a b k)).toArray ∧ Blk wr (w.heap.size + 2) 39 zn ∧ Below w.heap.size w wr) (fun i _ => 32 - (intOf i).toNat)
  case atStart => exact ⟨0, by omega, rfl, by rw [xorK_zero]; exact hA0, hN, hB⟩
  case round =>
    clear hA0 hN hB
    obtain ⟨k, hk, rfl, hA, hN, hB⟩ := hrel
    by_cases hlt : k < 32
    · have hix : ∀ W, _ := fun W => byteIndexN (P := Tryz.prog) Tryz.underlying39 Tryz.underlying5 (by kernel_rfl) b hb.out k hlt W
      have ca : wr.cell? ⟨w.heap.size, k, none⟩ = some (.int .u8 ((a[k]?.getD 0).toNat : Int)) := by
        rw [hA.cell, List.getElem?_toArray, bcells_get _ _ (by rw [xorK_length a b ha.out hb.out k hk]; exact hlt), xorK_get a b ha.out hb.out k hlt]
      obtain ⟨x, hx⟩ : ∃ x, x = a[k]?.getD 0 := ⟨_, rfl⟩
      obtain ⟨y, hy⟩ : ∃ y, y = b[k]?.getD 0 := ⟨_, rfl⟩
      have hs := xorK_set a b ha.out hb.out k hlt
      rw [← hx, ← hy] at hs
      rw [← hx] at ca
      rw [← hy] at hix
      have HS := Lib.hid hs
      have hf := hA.frozen k
      have hA2 := hA.set_ k (.int .u8 ((x ^^^ y).toNat : Int))
      rw [bset, HS.out] at hA2
      have hN2 := hN.far (p := ⟨w.heap.size, k, none⟩) (show w.heap.size + 2 ≠ w.heap.size by omega) (.int .u8 ((x ^^^ y).toNat : Int))
      have hB2 := hB.setCell (p := ⟨w.heap.size, k, none⟩) (Nat.le_refl _) (.int .u8 ((x ^^^ y).toNat : Int))
      clear hx hy hs hA hN hB
      go_wp2_with fail
      go_roundw
      case rel => exact ⟨k + 1, by omega, by go_num, hA2, hN2, hB2⟩
      case measure => simp [intOf]; omega
    · obtain rfl : k = 32 := by omega
      rw [xorK_all a b ha.out hb.out] at hA
      obtain ⟨S, hS⟩ : ∃ S, S = xorL a b := ⟨_, rfl⟩
      have HSl : Hid (S.length = 32) := Lib.hid (by rw [hS]; exact xorL_length a b ha.out hb.out)
      rw [← hS] at hA
      have HSS := Lib.hid hS
      clear hS
      go_wp2_with (first
        | ((with_reducible refine at_load 39 ?_); refine wpList_loadAll _ rfl 39 _ rfl w.heap.size 39 (bcells S).toArray hA _ rfl Tryz.underlying39 rfl (by rw [List.size_toArray, bcells_length, HSl.out]; kernel_rfl) ?_)
        | ((with_reducible refine at_store 39 ?_); refine wpList_storeAll _ rfl 39 _ _ rfl (w.heap.size + 2) 39 _ (bcells S).toArray hN rfl rfl (by rw [List.size_toArray, bcells_length, HSl.out]; kernel_rfl) (by rw [List.size_toArray, bcells_length, HSl.out]; kernel_rfl) (fun v hv => bcells_one _ v (by simpa using hv)) ?_; intro w5 h14 hg5 hs5))
      refine bodyPost_ret (results_cell_row rfl _ _ (w.heap.size + 2) _ _ _ _ rfl h14 Tryz.underlying39 rfl (by rw [List.size_toArray, bcells_length, HSl.out]; kernel_rfl)) rfl ⟨by rw [HSS.out], ?_⟩
      exact grown_below hB hg5 hB.size (by omega)
set_option maxRecDepth 100000 in
set_option maxHeartbeats 1000000 in
theorem rxor_any (a b : List UInt8) (ha' : a.length = 32) (hb' : b.length = 32) (w : World) :
    Calls Tryz.prog 130 #[.agg (bcells a).toArray, .agg (bcells b).toArray] w fun e w' => e = .returned (.agg (bcells (xorL a b)).toArray) ∧ Below w.heap.size w w' := by
  have hz := zeroNode
  have ha := Lib.hid ha'
  have hb := Lib.hid hb'
  have hA0 := (((Blk.new w 39 (bcells a).toArray).alloc (.cells (bcells b).toArray 39)).alloc (.cells zn 39))
  have hC0 := (blk_new1 w (.cells (bcells a).toArray 39) 39 (bcells b).toArray).alloc (.cells zn 39)
  have hN := blk_new2 w (.cells (bcells a).toArray 39) (.cells (bcells b).toArray 39) 39 zn
  have hB : Below w.heap.size w (((w.alloc (.cells (bcells a).toArray 39)).alloc (.cells (bcells b).toArray 39)).alloc (.cells zn 39)) := (((Below.refl _ _).alloc (Nat.le_refl _) _).alloc (by simp) _).alloc (by simp; omega) _
  clear ha' hb'
  go_enter Tryz.func130, Tryz.ntmps130
  go_wp2_with fail
  generalize ((w.alloc (.cells (bcells a).toArray 39)).alloc (.cells (bcells b).toArray 39)).alloc (.cells zn 39) = W0 at *
  clear hz
  go_loopw [6] (fun i wr => ∃ k : Nat, k ≤ 32 ∧ i = .int .i64 k ∧ Blk wr w.heap.size 39 (bcells (xorK a b k)).toArray ∧ Blk wr (w.heap.size + 1) 39 (bcells b).toArray ∧ Blk wr (w.heap.size + 2) 39 zn ∧ Below w.heap.size w wr) (fun i _ => 32 - (intOf i).toNat)
  case atStart => exact ⟨0, by omega, rfl, by rw [xorK_zero]; exact hA0, hC0, hN, hB⟩
  case round =>
    clear hA0 hC0 hN hB
    obtain ⟨k, hk, rfl, hA, hC, hN, hB⟩ := hrel
    by_cases hlt : k < 32
    · have cb : wr.cell? ⟨w.heap.size + 1, k, none⟩ = some (.int .u8 ((b[k]?.getD 0).toNat : Int)) := by
        rw [hC.cell, List.getElem?_toArray, bcells_get _ _ (by rw [hb.out]; exact hlt)]
      have ca : wr.cell? ⟨w.heap.size, k, none⟩ = some (.int .u8 ((a[k]?.getD 0).toNat : Int)) := by
        rw [hA.cell, List.getElem?_toArray, bcells_get _ _ (by rw [xorK_length a b ha.out hb.out k hk]; exact hlt), xorK_get a b ha.out hb.out k hlt]
      obtain ⟨x, hx⟩ : ∃ x, x = a[k]?.getD 0 := ⟨_, rfl⟩
      obtain ⟨y, hy⟩ : ∃ y, y = b[k]?.getD 0 := ⟨_, rfl⟩
      have hs := xorK_set a b ha.out hb.out k hlt
      rw [← hx, ← hy] at hs
      rw [← hx] at ca
      rw [← hy] at cb
      have HS := Lib.hid hs
      clear hx hy hs
      go_wp2_with fail
      have g0 : (0 : Int) ≤ (k : Int) := by omega
      have l0 : (k : Int) < (32 : Int) := by omega
      go_still_tail 7, (by kernel_rfl)
      change wpList _ _ _ _ _ wr.drew
      have hA1 := hA.drew
      have hC1 := hC.drew
      have hN1 := hN.drew
      have hB1 := hB.drew
      have ca1 : wr.drew.cell? ⟨w.heap.size, k, none⟩ = some (.int .u8 (x.toNat : Int)) := ca
      have hf := hA1.frozen k
      generalize wr.drew = W5 at *
      clear ca cb hA hC hN hB
      go_wp2_with fail
      have hA2 := hA1.set_ k (.int .u8 ((x ^^^ y).toNat : Int))
      rw [bset, HS.out] at hA2
      have hN2 := hN1.far (p := ⟨w.heap.size, k, none⟩) (show w.heap.size + 2 ≠ w.heap.size by omega) (.int .u8 ((x ^^^ y).toNat : Int))
      have hC2 := hC1.far (p := ⟨w.heap.size, k, none⟩) (show w.heap.size + 1 ≠ w.heap.size by omega) (.int .u8 ((x ^^^ y).toNat : Int))
      have hB2 := hB1.setCell (p := ⟨w.heap.size, k, none⟩) (Nat.le_refl _) (.int .u8 ((x ^^^ y).toNat : Int))
      go_roundw
      case rel => exact ⟨k + 1, by omega, by go_num, hA2, hC2, hN2, hB2⟩
      case measure => simp [intOf]; omega
    · obtain rfl : k = 32 := by omega
      rw [xorK_all a b ha.out hb.out] at hA
      obtain ⟨S, hS⟩ : ∃ S, S = xorL a b := ⟨_, rfl⟩
      have HSl : Hid (S.length = 32) := Lib.hid (by rw [hS]; exact xorL_length a b ha.out hb.out)
      rw [← hS] at hA
      have HSS := Lib.hid hS
      clear hS
      go_wp2_with (first
        | ((with_reducible refine at_load 39 ?_); refine wpList_loadAll _ rfl 39 _ rfl w.heap.size 39 (bcells S).toArray hA _ rfl Tryz.underlying39 rfl (by rw [List.size_toArray, bcells_length, HSl.out]; kernel_rfl) ?_)
        | ((with_reducible refine at_store 39 ?_); refine wpList_storeAll _ rfl 39 _ _ rfl (w.heap.size + 2) 39 _ (bcells S).toArray hN rfl rfl (by rw [List.size_toArray, bcells_length, HSl.out]; kernel_rfl) (by rw [List.size_toArray, bcells_length, HSl.out]; kernel_rfl) (fun v hv => bcells_one _ v (by simpa using hv)) ?_; intro w5 h14 hg5 hs5))
      refine bodyPost_ret (results_cell_row rfl _ _ (w.heap.size + 2) _ _ _ _ rfl h14 Tryz.underlying39 rfl (by rw [List.size_toArray, bcells_length, HSl.out]; kernel_rfl)) rfl ⟨by rw [HSS.out], ?_⟩
      exact grown_below hB hg5 hB.size (by omega)
end Go.Proofs.YtipdmhppadapkaaGreatDoor
/-
  Walks of the statements PrfXors, PrfNodes.
-/
namespace Go.Proofs.YtipdmhppadapkaaGreatDoor
open Go.RowKit Sha

theorem reg_eqlT {P : Program} {o : Oper} {a : Act} {w : World} {t t' : TypeId} {x y : Operand} {xs ys : Array Value} {r : Bool} (ho : o.op = .binOp .eql t x y t') (hx : a.eval x = .agg xs) (hy : a.eval y = .agg ys)
    (hm : P.eqGuardType P.depth t = false) (hr : (binOp .eql t (.agg xs) (.agg ys)).run P w = .ok (.bool r) w) : (execOp a.eval o).run P w = .ok (.value (.bool r)) w := by
  unfold execOp
  simp only [ho, hx, hy, Sem.run_bind, run_eqGuard_agg w .eql t x y xs ys hm, Result.andThen_ok, hr]
  rfl
end Go.Proofs.YtipdmhppadapkaaGreatDoor
