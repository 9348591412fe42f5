/-
  Walk: portreeveref03.Block: the same block taken in.
-/
import Derived.Test.YtapkhafgfbhkkaaDoorShaC
import Derived.StillTailTactics
import Derived.Deep.Cut
import Derived.Test.YtapkhafgfbhkkaaDoorStore2
namespace Go.Proofs.YtapkhafgfbhkkaaDoor
open Go.RowKit Sha

attribute [local go_sem] u_add3' u_add4' u_notm u_uc u_shl24 u_shl16 u_shl8 u_shr3 u_shr10 u_xor u_and u_or u_not u_add u_add' u_shr u_shl u_shl' rotr_alt

theorem run_kTab (w : World) (vs : Array (Nat × Value)) (h : vs = ((kTab.zipIdx).map fun x => (x.2, Value.int .u32 (u x.1))).toArray) : (Instr.build 95 vs).run Tryd.prog w = .ok (.agg (wcells kTab).toArray) w := by
  subst h; kernel_rfl
set_option maxRecDepth 100000 in
theorem rtable_any (w : World) : Calls Tryd.prog 66 #[] w fun e w' => e = .returned (.agg (wcells kTab).toArray) ∧ Below w.heap.size w w' := by
  have hz := zero64w
  go_enter Tryd.func66, Tryd.ntmps66
  have hb := Blk.new w 95 (zw 64)
  have hB0 : Below w.heap.size w (w.alloc (.cells (zw 64) 95)) := (Below.refl _ _).alloc (Nat.le_refl _) _
  go_wp2_with (first
    | ((with_reducible refine at_build 95 ?_); refine wpList_buildV _ rfl _ rfl rfl (run_kTab _ _ (by kernel_rfl)) ?_)
    | ((with_reducible refine at_store 95 ?_); refine wpList_storeAll _ rfl 95 _ _ rfl w.heap.size 95 _ (wcells kTab).toArray hb rfl rfl (by kernel_rfl) (by kernel_rfl) (fun v hv => wcells_one _ v (by simpa using hv)) ?_; intro w3 hb3 hg3 hs3))
  refine bodyPost_ret (results_cell_row rfl _ _ w.heap.size _ _ _ _ rfl hb3 Tryd.underlying95 rfl (by kernel_rfl)) rfl ⟨rfl, ?_⟩
  exact grown_below hB0 hg3 hB0.size (Nat.le_refl _)
theorem run_h0 (w : World) (vs : Array (Nat × Value)) (h : vs = ((h0.list.zipIdx).map fun x => (x.2, Value.int .u32 (u x.1))).toArray) : (Instr.build 75 vs).run Tryd.prog w = .ok (.agg (wcells h0.list).toArray) w := by
  subst h; kernel_rfl
def z8 : Array Value := rcells 8 []
theorem zero8w (w : World) : (zeroValue 75).run Tryd.prog w = .ok (.agg z8) w := by kernel_rfl
theorem rinit_any (w : World) : Calls Tryd.prog 57 #[] w fun e w' => e = .returned (.agg (wcells h0.list).toArray) ∧ Below w.heap.size w w' := by
  have hz := zero8w
  go_enter Tryd.func57, Tryd.ntmps57
  have hb := Blk.new w 75 z8
  have hB0 : Below w.heap.size w (w.alloc (.cells z8 75)) := (Below.refl _ _).alloc (Nat.le_refl _) _
  go_wp2_with (first
    | ((with_reducible refine at_build 75 ?_); refine wpList_buildV _ rfl _ rfl rfl (run_h0 _ _ (by kernel_rfl)) ?_)
    | ((with_reducible refine at_store 75 ?_); refine wpList_storeAll _ rfl 75 _ _ rfl w.heap.size 75 _ (wcells h0.list).toArray hb rfl rfl (by kernel_rfl) (by kernel_rfl) (fun v hv => wcells_one _ v (by simpa using hv)) ?_; intro w3 hb3 hg3 hs3))
  refine bodyPost_ret (results_cell_row rfl _ _ w.heap.size _ _ _ _ rfl hb3 Tryd.underlying75 rfl (by kernel_rfl)) rfl ⟨rfl, ?_⟩
  exact grown_below hB0 hg3 hB0.size (Nat.le_refl _)

/-- the blocks that the reference keeps while it takes a block in -/
structure RB (w : World) (b2 b4 b5 b6 : Nat) (v : V8) (cs : Array Value) (wr : World) : Prop where
  le2 : w.heap.size ≤ b2
  lt4 : b2 < b4
  lt5 : b4 < b5
  lt6 : b5 < b6
  H : Blk wr b2 75 (wcells v.list).toArray
  O : Blk wr b4 75 z8
  K : Blk wr b5 95 (wcells kTab).toArray
  M : Blk wr b6 95 cs
  B : Below w.heap.size w wr
namespace RB
variable {w wr : World} {b2 b4 b5 b6 : Nat} {v : V8} {cs : Array Value}
theorem le6 (h : RB w b2 b4 b5 b6 v cs wr) : w.heap.size ≤ b6 := by have := h.le2; have := h.lt4; have := h.lt5; have := h.lt6; omega
theorem drewN (h : RB w b2 b4 b5 b6 v cs wr) (n : Nat) : RB w b2 b4 b5 b6 v cs (wr.drewN n) := ⟨h.le2, h.lt4, h.lt5, h.lt6, h.H.drewN n, h.O.drewN n, h.K.drewN n, h.M.drewN n, below_drewN h.B n⟩
theorem drew (h : RB w b2 b4 b5 b6 v cs wr) : RB w b2 b4 b5 b6 v cs wr.drew := ⟨h.le2, h.lt4, h.lt5, h.lt6, h.H.drew, h.O.drew, h.K.drew, h.M.drew, h.B.drew⟩
theorem set (h : RB w b2 b4 b5 b6 v cs wr) (k : Nat) (x : Value) : RB w b2 b4 b5 b6 v (cs.setIfInBounds k x) (wr.setCell ⟨b6, k, none⟩ x) :=
  ⟨h.le2, h.lt4, h.lt5, h.lt6, h.H.far (by have := h.lt4; have := h.lt5; have := h.lt6; simp; omega) _, h.O.far (by have := h.lt5; have := h.lt6; simp; omega) _, h.K.far (by have := h.lt6; simp; omega) _, h.M.set_ k x, h.B.setCell (p := ⟨b6, k, none⟩) (by have := h.le6; simpa using this) x⟩
theorem chg (h : RB w b2 b4 b5 b6 v cs wr) {w' : World} {g : Nat} (c : Chg (fun b => b = g) wr w') (hg : b6 < g) : RB w b2 b4 b5 b6 v cs w' := by
  have l2 := h.le2
  have l4 := h.lt4
  have l5 := h.lt5
  have l6 := h.lt6
  exact ⟨l2, l4, l5, l6, h.H.chg c (show ¬ b2 = g by omega), h.O.chg c (show ¬ b4 = g by omega), h.K.chg c (show ¬ b5 = g by omega), h.M.chg c (show ¬ b6 = g by omega), h.B.trans (c.below (fun k e => by have e : k = g := e; omega) h.B.size)⟩
end RB
theorem v8_one (a b c d e f g h : W) : ∀ v ∈ (#[.int .u32 (u a), .int .u32 (u b), .int .u32 (u c), .int .u32 (u d), .int .u32 (u e), .int .u32 (u f), .int .u32 (u g), .int .u32 (u h)] : Array Value).toList, v.oneCell' = true :=
  wcells_one [a, b, c, d, e, f, g, h]
theorem w_set (l : List W) (k : Nat) (x : W) : (wcells l).toArray.setIfInBounds k (.int .u32 (u x)) = (wcells (l.set k x)).toArray := wcells_set l k x

set_option maxRecDepth 100000 in
set_option maxHeartbeats 4000000 in
theorem rblock_any (A : Option Addr) (c : Nat) (p : List UInt8) (hp' : p.length = 64) (v : V8) (w : World) (hR : Rd w w.heap.size 1 A 64 (bcells p)) :
    Calls Tryd.prog 58 #[.agg (wcells v.list).toArray, .slice A 64 c] w fun e w' => e = .returned (.agg (wcells (comp v p).list).toArray) ∧ Below w.heap.size w w' := by
  have hp := Lib.hid hp'
  clear hp'
  have hz := zero64w
  have hz8 := zero8w
  obtain ⟨hcs, hhcs⟩ : ∃ hcs, hcs = (wcells v.list).toArray := ⟨_, rfl⟩
  rw [← hhcs]
  have HH := Lib.hid hhcs
  clear hhcs
  go_enter Tryd.func58, Tryd.ntmps58
  go_wp2_with fail
  have h2 := (Blk.new w 75 hcs).alloc (.cells z8 75)
  have h4 := blk_new1 w (.cells hcs 75) 75 z8
  have hB0 : Below w.heap.size w ((w.alloc (.cells hcs 75)).alloc (.cells z8 75)) := ((Below.refl _ _).alloc (Nat.le_refl _) _).alloc (by simp) _
  have hs0 : ((w.alloc (.cells hcs 75)).alloc (.cells z8 75)).heap.size = w.heap.size + 2 := by simp
  generalize (w.alloc (.cells hcs 75)).alloc (.cells z8 75) = W0 at *
  refine (rtable_any W0).mono ?_
  rintro e W1 ⟨rfl, hB1⟩
  have h2 := h2.below hB1 h2.lt
  have h4 := h4.below hB1 h4.lt
  have hB := hB0.trans (hB1.mono hB0.size)
  have hs1 : w.heap.size + 2 ≤ W1.heap.size := by have := hB1.size; omega
  clear hB0 hB1
  have HS0 := Lib.hid hs0
  clear hs0
  go_wp2_with ((with_reducible refine at_store 95 ?_); refine wpList_storeAll _ rfl 95 _ _ rfl W1.heap.size 95 _ (wcells kTab).toArray (Blk.new W1 95 (zw 64)) rfl rfl (by kernel_rfl) (by kernel_rfl) (fun v hv => wcells_one _ v (by simpa using hv)) ?_; intro w3 h5 hg3 hs3)
  have hg3' : Chg (fun b => b = W1.heap.size) W1 w3 := ((Chg.refl _ _).alloc _).trans (Chg.grown hg3 (by rintro j h; cases h; rfl))
  have h2 := (h2.chg hg3' (by omega)).alloc (.cells (zw 64) 95)
  have h4 := (h4.chg hg3' (by omega)).alloc (.cells (zw 64) 95)
  have h5 := h5.alloc (.cells (zw 64) 95)
  have h6 := Blk.new w3 95 (zw 64)
  have hs3' : w3.heap.size = W1.heap.size + 1 := by rw [hs3, World.size_alloc]
  have hBB : Below w.heap.size w (w3.alloc (.cells (zw 64) 95)) := (hB.trans (hg3'.below (n := w.heap.size) (by rintro b rfl; omega) (by omega))).alloc (by omega) _
  have hRB : RB w w.heap.size (w.heap.size + 1) W1.heap.size (W1.heap.size + 1) v (zw 64) (w3.alloc (.cells (zw 64) 95)) := ⟨Nat.le_refl _, by omega, by omega, by omega, by rw [← HH.out]; exact h2, h4, h5, by rw [← hs3']; exact h6, hBB⟩
  obtain ⟨b2, hb2⟩ : ∃ b, b = w.heap.size := ⟨_, rfl⟩
  obtain ⟨b4, hb4⟩ : ∃ b, b = w.heap.size + 1 := ⟨_, rfl⟩
  rw [← hb4] at hRB ⊢
  generalize W1.heap.size = b5 at *
  generalize b5 + 1 = b6 at *
  generalize w3.alloc (.cells (zw 64) 95) = W4 at *
  clear h2 h4 h5 h6 hBB hB hg3' hg3 hs3 hs3' hs1 HS0 hz hz8 hb4 hb2
  go_wp2_with fail
  go_loopw [7] (fun i wr => ∃ k : Nat, k ≤ 16 ∧ i = .int .i64 k ∧ RB w w.heap.size b4 b5 b6 v (rcells 64 (sched p k)) wr) (fun i _ => 16 - (intOf i).toNat)
  case atStart => exact ⟨0, by omega, rfl, hRB⟩
  case round =>
    clear hRB
    obtain ⟨k, hk16, rfl, hR0⟩ := hrel
    by_cases hlt : k < 16
    · --<1
      obtain ⟨b, off, rfl, hab, hcs'⟩ := (hR.below hR0.B).range (by omega)
      have q0 := hcs' (4 * k) _ (bcells_get p _ (by rw [hp.out]; omega))
      have q1 := hcs' (4 * k + 1) _ (bcells_get p _ (by rw [hp.out]; omega))
      have q2 := hcs' (4 * k + 2) _ (bcells_get p _ (by rw [hp.out]; omega))
      have q3 := hcs' (4 * k + 3) _ (bcells_get p _ (by rw [hp.out]; omega))
      clear hcs'
      have l0 : 4 * (k : Int) < (64 : Int) := by omega
      have g0 : 0 ≤ 4 * (k : Int) := by omega
      have t0 : (4 * (k : Int)).toNat = 4 * k := by omega
      have l1 : 4 * (k : Int) + 1 < (64 : Int) := by omega
      have g1 : 0 ≤ 4 * (k : Int) + 1 := by omega
      have t1 : (4 * (k : Int) + 1).toNat = 4 * k + 1 := by omega
      have l2 : 4 * (k : Int) + 2 < (64 : Int) := by omega
      have g2 : 0 ≤ 4 * (k : Int) + 2 := by omega
      have t2 : (4 * (k : Int) + 2).toNat = 4 * k + 2 := by omega
      have l3 : 4 * (k : Int) + 3 < (64 : Int) := by omega
      have g3 : 0 ≤ 4 * (k : Int) + 3 := by omega
      have t3 : (4 * (k : Int) + 3).toNat = 4 * k + 3 := by omega
      have e0 : IntKind.i64.wrap (4 * (k : Int)) = 4 * (k : Int) := IntWalk.i64_in _ (by omega)
      have e1 : IntKind.i64.wrap (4 * (k : Int) + 1) = 4 * (k : Int) + 1 := IntWalk.i64_in _ (by omega)
      have e2 : IntKind.i64.wrap (4 * (k : Int) + 2) = 4 * (k : Int) + 2 := IntWalk.i64_in _ (by omega)
      have e3 : IntKind.i64.wrap (4 * (k : Int) + 3) = 4 * (k : Int) + 3 := IntWalk.i64_in _ (by omega)
      go_wp2_with fail
      go_still_tail 34, (by kernel_rfl)
      change wpList _ _ _ _ _ wr.drew
      clear e0 e1 e2 e3 l0 l1 l2 l3 g0 g1 g2 g3 t0 t1 t2 t3 q0 q1 q2 q3
      have hR2 := hR0.drew
      generalize wr.drew = W2 at *
      clear hR0
      have hl := sched_length p k
      obtain ⟨v1, hc1⟩ : ∃ v, W2.cell? ⟨b6, k, none⟩ = some v := by rw [hR2.M.cell]; exact rcells_any 64 _ k (by rw [hl]; omega) (by omega)
      have hf1 := hR2.M.frozen k
      go_wp2_with fail
      have hR3 := hR2.set k (.int .u32 (u (word p k)))
      have e5 : sched p (k + 1) = sched p k ++ [word p k] := by simp [sched, hlt]
      have e6 := rcells_set 64 (sched p k) (word p k) (by rw [hl]; omega)
      rw [hl] at e6
      rw [e6, ← e5] at hR3
      go_roundw
      case rel => exact ⟨k + 1, by omega, by go_num, hR3⟩
      case measure => simp [intOf]; omega
      --1>
    · obtain rfl : k = 16 := by omega
      clear hlt hk16
      go_wp2_with fail
      go_loopw [8] (fun i wr => ∃ k : Nat, 16 ≤ k ∧ k ≤ 64 ∧ i = .int .i64 k ∧ RB w w.heap.size b4 b5 b6 v (rcells 64 (sched p k)) wr) (fun i _ => 64 - (intOf i).toNat)
      case atStart => exact ⟨16, by omega, by omega, rfl, hR0⟩
      case round =>
        clear hR0
        obtain ⟨k, hk16, hk64, rfl, hR0⟩ := hrel
        by_cases hlt : k < 64
        · --<2
          obtain ⟨m, hm⟩ : ∃ m, k = m + 16 := ⟨k - 16, by omega⟩
          obtain ⟨L, hL⟩ : ∃ L, L = sched p k := ⟨_, rfl⟩
          have hLl : L.length = k := by rw [hL, sched_length]
          obtain ⟨x16, h16⟩ : ∃ x, x = L[m]?.getD 0 := ⟨_, rfl⟩
          obtain ⟨x15, h15⟩ : ∃ x, x = L[m + 1]?.getD 0 := ⟨_, rfl⟩
          obtain ⟨x7, h7⟩ : ∃ x, x = L[m + 9]?.getD 0 := ⟨_, rfl⟩
          obtain ⟨x2, h2⟩ : ∃ x, x = L[m + 14]?.getD 0 := ⟨_, rfl⟩
          have R16 := Lib.hid (rcells_get 64 L m (by omega))
          have r15 := rcells_get 64 L (m + 1) (by omega)
          have R7 := Lib.hid (rcells_get 64 L (m + 9) (by omega))
          have r2 := rcells_get 64 L (m + 14) (by omega)
          rw [← h16] at R16
          rw [← h15] at r15
          rw [← h7] at R7
          rw [← h2] at r2
          have hnx : sched p (k + 1) = L ++ [x16 + lo0 x15 + x7 + lo1 x2] := by
            show sched p k ++ _ = _
            rw [← hL, if_neg (by omega), nextW, hLl, h16, h15, h7, h2, hm]
            simp
          rw [← hL] at hR0
          have Hnx := Lib.hid hnx
          have HLl := Lib.hid hLl
          have Hm := Lib.hid hm
          have cc15 : wr.cell? ⟨b6, m + 1, none⟩ = some (.int .u32 (u x15)) := (hR0.M.cell _).trans r15
          have cc2 : wr.cell? ⟨b6, m + 14, none⟩ = some (.int .u32 (u x2)) := (hR0.M.cell _).trans r2
          have l1 : (m : Int) + 1 < (64 : Int) := by omega
          have g1 : 0 ≤ (m : Int) + 1 := by omega
          have t1 : ((m : Int) + 1).toNat = m + 1 := by omega
          have l2 : (m : Int) + 14 < (64 : Int) := by omega
          have g2 : 0 ≤ (m : Int) + 14 := by omega
          have t2 : ((m : Int) + 14).toNat = m + 14 := by omega
          have e1 : IntKind.i64.wrap ((k : Int) - 15) = (m : Int) + 1 := by rw [IntWalk.i64_in _ (by omega)]; omega
          have e2 : IntKind.i64.wrap ((k : Int) - 2) = (m : Int) + 14 := by rw [IntWalk.i64_in _ (by omega)]; omega
          clear h16 h15 h7 h2 hnx hL hLl hm r15 r2
          go_wp2_with fail
          go_quiet (fail)
          clear l1 g1 t1 l2 g2 t2 e1 e2 cc15 cc2
          go_wp2_with fail
          have hLl := HLl.out
          have hm := Hm.out
          have n2 : ¬ w.heap.size = b6 := by have := hR0.le2; have := hR0.lt4; have := hR0.lt5; have := hR0.lt6; omega
          have n4 : ¬ b4 = b6 := by have := hR0.lt5; have := hR0.lt6; omega
          have n5 : ¬ b5 = b6 := by have := hR0.lt6; omega
          refine Flow.wp_region_flow (w.heap.size) [(29, fun b => b = b6)] [(4, fun W => Blk W b6 95 (rcells 64 L)), (17, fun W => Blk W b6 95 (rcells 64 L)), (29, fun W => Blk W b6 95 (rcells 64 L)), (30, fun W => Blk W w.heap.size 75 ((wcells v.list).toArray)), (30, fun W => Blk W b4 75 (z8)), (30, fun W => Blk W b5 95 ((wcells kTab).toArray))] (by kernel_rfl) (by kernel_rfl) (hR0.drewN nq).drew.B.size (Flow.nz_cons (by rintro b rfl; exact hR0.le6) Flow.nz_nil) (Flow.facts_cons ((hR0.drewN nq).drew.M) (Flow.kept_blk id) (Flow.fz_cons (Flow.no_follow (by kernel_rfl)) Flow.fz_nil) (Flow.facts_cons ((hR0.drewN nq).drew.M) (Flow.kept_blk id) (Flow.fz_cons (Flow.no_follow (by kernel_rfl)) Flow.fz_nil) (Flow.facts_cons ((hR0.drewN nq).drew.M) (Flow.kept_blk id) (Flow.fz_cons (Flow.no_follow (by kernel_rfl)) Flow.fz_nil) (Flow.facts_cons ((hR0.drewN nq).drew.H) (Flow.kept_blk id) (Flow.fz_cons (fun _ => Flow.kept_blk (by first | assumption | (show ¬ _ = _; first | assumption | omega | (simp; omega)) | (show ¬ (_ ≤ _); omega))) Flow.fz_nil) (Flow.facts_cons ((hR0.drewN nq).drew.O) (Flow.kept_blk id) (Flow.fz_cons (fun _ => Flow.kept_blk (by first | assumption | (show ¬ _ = _; first | assumption | omega | (simp; omega)) | (show ¬ (_ ≤ _); omega))) Flow.fz_nil) (Flow.facts_cons ((hR0.drewN nq).drew.K) (Flow.kept_blk id) (Flow.fz_cons (fun _ => Flow.kept_blk (by first | assumption | (show ¬ _ = _; first | assumption | omega | (simp; omega)) | (show ¬ (_ ≤ _); omega))) Flow.fz_nil) Flow.facts_nil)))))) ?_
          refine Flow.pass_old 8 (Flow.met_none rfl) (.inl rfl) (by kernel_rfl) (by kernel_rfl) rfl ?_
          refine Flow.pass_old 8 (Flow.met_none rfl) (.inl rfl) (by kernel_rfl) (by kernel_rfl) rfl ?_
          refine Flow.pass_val (.int .i64 ((m : Int))) (Flow.met_none rfl) (fun a W hH => ?_) ?_
          · have e0 := Flow.see_new 71 1 hH.sees (by kernel_rfl) (by kernel_rfl) rfl rfl
            go_simp; first | done | rfl | (rw [IntWalk.i64_in _ (by omega)]; first | done | rfl | omega | (simp; done))
          refine Flow.pass_val (.pointer (some ⟨b6, m, none⟩)) (Flow.met_none rfl) (fun a W hH => ?_) ?_
          · have e0 := Flow.see_old 6 hH.sees (by kernel_rfl) (by kernel_rfl) rfl
            have e1 := Flow.see_new 72 2 hH.sees (by kernel_rfl) (by kernel_rfl) rfl rfl
            exact reg_ixA (s := 1) (m) _ rfl Tryd.underlying95 (by kernel_rfl) (by first | exact e0 | simpa [Act.eval] using e0 | (simp [Act.eval])) (by first | exact e1 | simpa [Act.eval] using e1 | (simp [Act.eval])) (by first | rfl | (simp; done) | omega) (by omega) (by first | rfl | omega)
          refine Flow.pass_val (.int .u32 (u (x16))) (Flow.met_none rfl) (fun a W hH => ?_) ?_
          · have e0 := Flow.see_new 73 3 hH.sees (by kernel_rfl) (by kernel_rfl) rfl rfl
            have fa0 : (fun W => Blk W b6 95 (rcells 64 L)) W := hH.fact _ (List.mem_of_getElem? (i := 0) rfl) rfl
            have cc := (fa0.cell _).trans R16.out; go_simp
          refine Flow.pass_old 9 (Flow.met_none rfl) (.inl rfl) (by kernel_rfl) (by kernel_rfl) rfl ?_
          refine Flow.pass_step (Reg.eqs (.int .u32 (u (rotr x15 7)))) (fun _ _ => Flow.kept_eqs _ _) (Flow.met_none rfl) (fun a W hH => ?_) ?_
          · have e0 := Flow.see_new 75 5 hH.sees (by kernel_rfl) (by kernel_rfl) rfl rfl
            refine Reg.wp_call rfl Tryd.func67 rfl (by kernel_rfl) (by simp [Act.eval, e0]) (rturn_any x15 7 (by omega) (by omega) W) ?_
            rintro e w' ⟨rfl, q, rfl⟩
            exact ⟨_, rfl, _, rfl, below_drewN (Below.refl _ _) q, rfl⟩
          refine Flow.pass_old 9 (Flow.met_none rfl) (.inl rfl) (by kernel_rfl) (by kernel_rfl) rfl ?_
          refine Flow.pass_step (Reg.eqs (.int .u32 (u (rotr x15 18)))) (fun _ _ => Flow.kept_eqs _ _) (Flow.met_none rfl) (fun a W hH => ?_) ?_
          · have e0 := Flow.see_new 77 7 hH.sees (by kernel_rfl) (by kernel_rfl) rfl rfl
            refine Reg.wp_call rfl Tryd.func67 rfl (by kernel_rfl) (by simp [Act.eval, e0]) (rturn_any x15 18 (by omega) (by omega) W) ?_
            rintro e w' ⟨rfl, q, rfl⟩
            exact ⟨_, rfl, _, rfl, below_drewN (Below.refl _ _) q, rfl⟩
          refine Flow.pass_val (.int .u32 (u (rotr x15 7 ^^^ rotr x15 18))) (Flow.met_none rfl) (fun a W hH => ?_) ?_
          · have e0 := Flow.see_new 76 6 hH.sees (by kernel_rfl) (by kernel_rfl) rfl rfl
            have e1 := Flow.see_new 78 8 hH.sees (by kernel_rfl) (by kernel_rfl) rfl rfl
            go_simp; first | done | rfl
          refine Flow.pass_old 9 (Flow.met_none rfl) (.inl rfl) (by kernel_rfl) (by kernel_rfl) rfl ?_
          refine Flow.pass_val (.int .u32 (u (x15 >>> 3))) (Flow.met_none rfl) (fun a W hH => ?_) ?_
          · have e0 := Flow.see_new 80 10 hH.sees (by kernel_rfl) (by kernel_rfl) rfl rfl
            go_simp; first | done | rfl
          refine Flow.pass_val (.int .u32 (u (lo0 x15))) (Flow.met_none rfl) (fun a W hH => ?_) ?_
          · have e0 := Flow.see_new 79 9 hH.sees (by kernel_rfl) (by kernel_rfl) rfl rfl
            have e1 := Flow.see_new 81 11 hH.sees (by kernel_rfl) (by kernel_rfl) rfl rfl
            go_simp; rfl
          refine Flow.pass_val (.int .u32 (u (x16 + lo0 x15))) (Flow.met_none rfl) (fun a W hH => ?_) ?_
          · have e0 := Flow.see_new 74 4 hH.sees (by kernel_rfl) (by kernel_rfl) rfl rfl
            have e1 := Flow.see_new 82 12 hH.sees (by kernel_rfl) (by kernel_rfl) rfl rfl
            go_simp; first | done | rfl
          refine Flow.pass_old 8 (Flow.met_none rfl) (.inl rfl) (by kernel_rfl) (by kernel_rfl) rfl ?_
          refine Flow.pass_val (.int .i64 (((m + 9 : Nat) : Int))) (Flow.met_none rfl) (fun a W hH => ?_) ?_
          · have e0 := Flow.see_new 84 14 hH.sees (by kernel_rfl) (by kernel_rfl) rfl rfl
            go_simp; first | done | rfl | (rw [IntWalk.i64_in _ (by omega)]; first | done | rfl | omega | (simp; done))
          refine Flow.pass_val (.pointer (some ⟨b6, m + 9, none⟩)) (Flow.met_none rfl) (fun a W hH => ?_) ?_
          · have e0 := Flow.see_old 6 hH.sees (by kernel_rfl) (by kernel_rfl) rfl
            have e1 := Flow.see_new 85 15 hH.sees (by kernel_rfl) (by kernel_rfl) rfl rfl
            exact reg_ixA (s := 1) (m + 9) _ rfl Tryd.underlying95 (by kernel_rfl) (by first | exact e0 | simpa [Act.eval] using e0 | (simp [Act.eval])) (by first | exact e1 | simpa [Act.eval] using e1 | (simp [Act.eval])) (by first | rfl | (simp; done) | omega) (by omega) (by first | rfl | omega)
          refine Flow.pass_val (.int .u32 (u (x7))) (Flow.met_none rfl) (fun a W hH => ?_) ?_
          · have e0 := Flow.see_new 86 16 hH.sees (by kernel_rfl) (by kernel_rfl) rfl rfl
            have fa1 : (fun W => Blk W b6 95 (rcells 64 L)) W := hH.fact _ (List.mem_of_getElem? (i := 1) rfl) rfl
            have cc := (fa1.cell _).trans R7.out; go_simp
          refine Flow.pass_val (.int .u32 (u (x16 + lo0 x15 + x7))) (Flow.met_none rfl) (fun a W hH => ?_) ?_
          · have e0 := Flow.see_new 83 13 hH.sees (by kernel_rfl) (by kernel_rfl) rfl rfl
            have e1 := Flow.see_new 87 17 hH.sees (by kernel_rfl) (by kernel_rfl) rfl rfl
            go_simp; first | done | rfl
          refine Flow.pass_old 10 (Flow.met_none rfl) (.inl rfl) (by kernel_rfl) (by kernel_rfl) rfl ?_
          refine Flow.pass_step (Reg.eqs (.int .u32 (u (rotr x2 17)))) (fun _ _ => Flow.kept_eqs _ _) (Flow.met_none rfl) (fun a W hH => ?_) ?_
          · have e0 := Flow.see_new 89 19 hH.sees (by kernel_rfl) (by kernel_rfl) rfl rfl
            refine Reg.wp_call rfl Tryd.func67 rfl (by kernel_rfl) (by simp [Act.eval, e0]) (rturn_any x2 17 (by omega) (by omega) W) ?_
            rintro e w' ⟨rfl, q, rfl⟩
            exact ⟨_, rfl, _, rfl, below_drewN (Below.refl _ _) q, rfl⟩
          refine Flow.pass_old 10 (Flow.met_none rfl) (.inl rfl) (by kernel_rfl) (by kernel_rfl) rfl ?_
          refine Flow.pass_step (Reg.eqs (.int .u32 (u (rotr x2 19)))) (fun _ _ => Flow.kept_eqs _ _) (Flow.met_none rfl) (fun a W hH => ?_) ?_
          · have e0 := Flow.see_new 91 21 hH.sees (by kernel_rfl) (by kernel_rfl) rfl rfl
            refine Reg.wp_call rfl Tryd.func67 rfl (by kernel_rfl) (by simp [Act.eval, e0]) (rturn_any x2 19 (by omega) (by omega) W) ?_
            rintro e w' ⟨rfl, q, rfl⟩
            exact ⟨_, rfl, _, rfl, below_drewN (Below.refl _ _) q, rfl⟩
          refine Flow.pass_val (.int .u32 (u (rotr x2 17 ^^^ rotr x2 19))) (Flow.met_none rfl) (fun a W hH => ?_) ?_
          · have e0 := Flow.see_new 90 20 hH.sees (by kernel_rfl) (by kernel_rfl) rfl rfl
            have e1 := Flow.see_new 92 22 hH.sees (by kernel_rfl) (by kernel_rfl) rfl rfl
            go_simp; first | done | rfl
          refine Flow.pass_old 10 (Flow.met_none rfl) (.inl rfl) (by kernel_rfl) (by kernel_rfl) rfl ?_
          refine Flow.pass_val (.int .u32 (u (x2 >>> 10))) (Flow.met_none rfl) (fun a W hH => ?_) ?_
          · have e0 := Flow.see_new 94 24 hH.sees (by kernel_rfl) (by kernel_rfl) rfl rfl
            go_simp; first | done | rfl
          refine Flow.pass_val (.int .u32 (u (lo1 x2))) (Flow.met_none rfl) (fun a W hH => ?_) ?_
          · have e0 := Flow.see_new 93 23 hH.sees (by kernel_rfl) (by kernel_rfl) rfl rfl
            have e1 := Flow.see_new 95 25 hH.sees (by kernel_rfl) (by kernel_rfl) rfl rfl
            go_simp; rfl
          refine Flow.pass_val (.int .u32 (u (x16 + lo0 x15 + x7 + lo1 x2))) (Flow.met_none rfl) (fun a W hH => ?_) ?_
          · have e0 := Flow.see_new 88 18 hH.sees (by kernel_rfl) (by kernel_rfl) rfl rfl
            have e1 := Flow.see_new 96 26 hH.sees (by kernel_rfl) (by kernel_rfl) rfl rfl
            go_simp; first | done | rfl
          refine Flow.pass_val (.pointer (some ⟨b6, k, none⟩)) (Flow.met_none rfl) (fun a W hH => ?_) ?_
          · have e0 := Flow.see_old 6 hH.sees (by kernel_rfl) (by kernel_rfl) rfl
            have e1 := Flow.see_new 70 0 hH.sees (by kernel_rfl) (by kernel_rfl) rfl rfl
            exact reg_ixA (s := 1) (k) _ rfl Tryd.underlying95 (by kernel_rfl) (by first | exact e0 | simpa [Act.eval] using e0 | (simp [Act.eval])) (by first | exact e1 | simpa [Act.eval] using e1 | (simp [Act.eval])) (by first | rfl | (simp; done) | omega) (by omega) (by first | rfl | omega)
          refine Flow.pass_gen (fun _ W => Blk W b6 95 ((rcells 64 L).setIfInBounds k (.int .u32 (u (x16 + lo0 x15 + x7 + lo1 x2))))) (Flow.kept_of (fun _ _ _ c h => h.chg c id) (Flow.kz_cons (Flow.no_follow (by kernel_rfl)) Flow.kz_nil)) (Flow.met_none rfl) (fun a W hH => ?_) ?_
          · have e0 := Flow.see_new 98 28 hH.sees (by kernel_rfl) (by kernel_rfl) rfl rfl
            have e1 := Flow.see_new 97 27 hH.sees (by kernel_rfl) (by kernel_rfl) rfl rfl
            have fa2 : (fun W => Blk W b6 95 (rcells 64 L)) W := hH.fact _ (List.mem_of_getElem? (i := 2) rfl) rfl
            refine wp_skip0 (reg_storeInt rfl (by kernel_rfl) fa2 e0 e1 (by rw [rcells_size 64 L (by omega)]; omega)) ?_
            exact ⟨_, rfl, Chg.grown (grown_setL _ _ _ _) (by rintro j h; cases h; rfl), fa2.set_ _ _⟩
          refine Flow.pass_end [none, none, none, none, none, none, none, none, none, none, none, none, none, none, none, none, none, none, none, none, none, none, none, none, none, none, none, none, none, none, none, none, none, none, none, none, none, none, none, none, none, none, none, none, none, none, none, none, none, none, none, none, none, none, none, none, none, none, none, none, none, none, none, none, none, none, none, none, none, none, some 70, some 71, some 72, some 73, some 74, some 75, some 76, some 77, some 78, some 79, some 80, some 81, some 82, some 83, some 84, some 85, some 86, some 87, some 88, some 89, some 90, some 91, some 92, some 93, some 94, some 95, some 96, some 97, some 98, none, none, none, none, none, none, none, none, none, none, none, none, none, none, none, none, none, none, none, none, none, none, none, none, none, none, none, none, none, none, none, none, none, none, none, none, none, none, none, none, none, none, none, none, none, none, none, none, none, none, none, none, none, none, none, none, none, none, none, none, none, none, none, none, none, none, none, none, none, none, none, none, none, none, none, none, none, none, none, none, none, none, none, none, none, none, none, none, none, none, none, none, none, none, none, none] (by kernel_rfl) ?_
          intro f gg w9 hB hfa hT hfg
          have F3 : (fun W => Blk W w.heap.size 75 ((wcells v.list).toArray)) w9 := hfa _ (List.mem_of_getElem? (i := 3) rfl) (Nat.le_refl _)
          have F4 : (fun W => Blk W b4 75 (z8)) w9 := hfa _ (List.mem_of_getElem? (i := 4) rfl) (Nat.le_refl _)
          have F5 : (fun W => Blk W b5 95 ((wcells kTab).toArray)) w9 := hfa _ (List.mem_of_getElem? (i := 5) rfl) (Nat.le_refl _)
          have h29 := hT 29 _ (by kernel_rfl) rfl
          have B9 := (hR0.drewN nq).drew.B.trans hB
          clear hfa hT hfg hB n2 n4 n5
          have e6 := rcells_set 64 L (x16 + lo0 x15 + x7 + lo1 x2) (by rw [hLl]; exact hlt)
          rw [hLl] at e6
          rw [e6, ← Hnx.out] at h29
          have hR3 : RB w w.heap.size b4 b5 b6 v (rcells 64 (sched p (k + 1))) w9 := ⟨hR0.le2, hR0.lt4, hR0.lt5, hR0.lt6, F3, F4, F5, h29, B9⟩
          clear e6 hLl hm F3 F4 F5 B9 hR0 h29
          simp only [Reg.sel]
          go_wp2
          go_roundw
          case rel => exact ⟨k + 1, by omega, by omega, by go_num, hR3⟩
          case measure => simp [intOf]; omega
          --2>
        · obtain rfl : k = 64 := by omega
          clear hlt hk16 hk64
          have hz8 := zero8w
          obtain ⟨SP, hSP⟩ : ∃ SP, SP = sched p 64 := ⟨_, rfl⟩
          have hl : SP.length = 64 := by rw [hSP, sched_length]
          rw [← hSP] at hR0
          have HSP := Lib.hid hSP
          have HL := Lib.hid hl
          clear hSP hl
          have hl6 : b6 < wr.heap.size := hR0.M.lt
          go_wp2_with (first
            | ((with_reducible refine at_load 75 ?_); refine wpList_loadAll _ rfl 75 _ rfl w.heap.size 75 (wcells v.list).toArray hR0.H _ rfl Tryd.underlying75 rfl (by kernel_rfl) ?_)
            | ((with_reducible refine at_store 75 ?_); refine wpList_storeAll _ rfl 75 _ _ rfl wr.heap.size 75 _ (wcells v.list).toArray (Blk.new wr 75 z8) rfl rfl (by kernel_rfl) (by kernel_rfl) (fun v hv => wcells_one _ v (by simpa using hv)) ?_; intro w5 h11 hg5 hs5))
          have hC5 : Chg (fun b => b = wr.heap.size) wr w5 := ((Chg.refl _ _).alloc _).trans (Chg.grown hg5 (by rintro j h; cases h; rfl))
          have hR5 := hR0.chg hC5 hl6
          generalize wr.heap.size = b11 at *
          clear hR0 hC5 hg5 hs5 hz8
          go_wp2_with fail
          go_loopw [12] (fun i wr => ∃ k : Nat, k ≤ 64 ∧ i = .int .i64 k ∧ RB w w.heap.size b4 b5 b6 v (rcells 64 SP) wr ∧ Blk wr b11 75 (wcells (v.rnds kTab SP k).list).toArray) (fun i _ => 64 - (intOf i).toNat)
          case atStart => exact ⟨0, by omega, rfl, hR5, h11⟩
          case round =>
            clear hR5 h11
            obtain ⟨k, hk64, rfl, hR0, h11⟩ := hrel
            by_cases hlt : k < 64
            · --<3
              have cw : wr.cell? ⟨b6, k, none⟩ = some (.int .u32 (u (SP[k]?.getD 0))) := (hR0.M.cell k).trans (rcells_get 64 SP k (by rw [HL.out]; exact hlt))
              have ck : wr.cell? ⟨b5, k, none⟩ = some (.int .u32 (u (kTab[k]?.getD 0))) := (hR0.K.cell k).trans (by rw [List.getElem?_toArray]; exact wcells_get kTab k hlt)
              obtain ⟨V, hV⟩ : ∃ V, V = v.rnds kTab SP k := ⟨_, rfl⟩
              obtain ⟨xk, hxk⟩ : ∃ x, x = kTab[k]?.getD 0 := ⟨_, rfl⟩
              have hnx : v.rnds kTab SP (k + 1) = V.rnd xk (SP[k]?.getD 0) := by show (v.rnds kTab SP k).rnd _ _ = _; rw [← hV, ← hxk]
              rw [← hV] at h11
              rw [← hxk] at ck
              have Hnx := Lib.hid hnx
              clear hnx hV hxk
              obtain ⟨va, vb, vc, vd, ve, vf, vg, vh⟩ := V
              have c0 : wr.cell? ⟨b11, 0, none⟩ = some (.int .u32 (u va)) := h11.cell 0
              have c1 : wr.cell? ⟨b11, 1, none⟩ = some (.int .u32 (u vb)) := h11.cell 1
              have c2 : wr.cell? ⟨b11, 2, none⟩ = some (.int .u32 (u vc)) := h11.cell 2
              have c3 : wr.cell? ⟨b11, 3, none⟩ = some (.int .u32 (u vd)) := h11.cell 3
              have c4 : wr.cell? ⟨b11, 4, none⟩ = some (.int .u32 (u ve)) := h11.cell 4
              have c5 : wr.cell? ⟨b11, 5, none⟩ = some (.int .u32 (u vf)) := h11.cell 5
              have c6 : wr.cell? ⟨b11, 6, none⟩ = some (.int .u32 (u vg)) := h11.cell 6
              have c7 : wr.cell? ⟨b11, 7, none⟩ = some (.int .u32 (u vh)) := h11.cell 7
              have H11 := Lib.hid h11
              clear h11
              go_wp2_with fail
              go_quiet (fail)
              go_wp2_with fail
              have hn : ∀ a, (wr.drewN nq).cell? a = wr.cell? a := fun a => rfl
              rw [← hn] at c0 c1 c2 c3 c4 c5 c6 c7 cw ck
              have h11 := (H11.out).drewN nq
              have hR1 := hR0.drewN nq
              generalize wr.drewN nq = W1 at *
              clear hn H11 hR0
              go_quiet ((go_at_call 67; refine Calls.quiet_of (rturn_any _ _ (by omega) (by omega) _)))
              go_wp2_with fail
              have hn : ∀ a, (W1.drewN nq).cell? a = W1.cell? a := fun a => rfl
              rw [← hn] at c0 c1 c2 c3 c4 c5 c6 c7 cw ck
              have h11 := h11.drewN nq
              have hR1 := hR1.drewN nq
              generalize W1.drewN nq = W2 at *
              clear hn
              go_quiet ((go_at_call 67; refine Calls.quiet_of (rturn_any _ _ (by omega) (by omega) _)))
              have hn : ∀ a, (W2.drewN nq).cell? a = W2.cell? a := fun a => rfl
              rw [← hn] at c0 c1 c2 c3 c4 c5 c6 c7 cw ck
              have h11 := h11.drewN nq
              have hR1 := hR1.drewN nq
              generalize W2.drewN nq = W3 at *
              clear hn cw ck
              go_wp2_with ((with_reducible refine at_store 75 ?_); refine wpList_storeAll _ rfl 75 _ _ rfl b11 75 _ #[.int .u32 (u _), .int .u32 (u _), .int .u32 (u _), .int .u32 (u _), .int .u32 (u _), .int .u32 (u _), .int .u32 (u _), .int .u32 (u _)] h11 rfl rfl rfl (by kernel_rfl) (v8_one _ _ _ _ _ _ _ _) ?_; intro w6 h12 hg6 hs6)
              have hR2 := hR1.chg (Chg.grown (Z := fun b => b = b11) hg6 (by rintro j h; cases h; rfl)) hl6
              clear c0 c1 c2 c3 c4 c5 c6 c7 hg6 hs6 hR1 h11
              have h13 : Blk w6 b11 75 (wcells (v.rnds kTab SP (k + 1)).list).toArray := by
                rw [Hnx.out]; exact h12
              clear h12
              go_roundw
              case rel =>
                exact ⟨k + 1, by omega, by go_num, hR2, h13⟩
              case measure => simp [intOf]; omega
              --3>
            · obtain rfl : k = 64 := by omega
              clear hlt hk64
              obtain ⟨V, hV⟩ : ∃ V, V = v.rnds kTab SP 64 := ⟨_, rfl⟩
              have hcomp : comp v p = v.add V := by unfold comp; rw [← HSP.out, hV]
              rw [← hV] at h11
              have HC := Lib.hid hcomp
              clear hV hcomp
              have l2 := hR0.le2
              have l11 : w.heap.size < b11 := by have := hR0.lt4; have := hR0.lt5; have := hR0.lt6; omega
              have l4 : w.heap.size < b4 := hR0.lt4
              have hH := hR0.H
              have hO := hR0.O
              have hB := hR0.B
              clear hR0 hR
              go_wp2_with fail
              go_loopw [17] (fun i wr => ∃ k : Nat, k ≤ 8 ∧ i = .int .i64 k ∧ Blk wr w.heap.size 75 (wcells (mixW v V k)).toArray ∧ Blk wr b4 75 z8 ∧ Blk wr b11 75 (wcells V.list).toArray ∧ Below w.heap.size w wr) (fun i _ => 8 - (intOf i).toNat)
              case atStart => exact ⟨0, by omega, rfl, hH, hO, h11, hB⟩
              case round =>
                clear hH hO h11 hB
                obtain ⟨k, hk8, rfl, hH, hO, h11, hB⟩ := hrel
                by_cases hlt : k < 8
                · obtain ⟨x, hx⟩ : ∃ x, x = V.list[k]?.getD 0 := ⟨_, rfl⟩
                  obtain ⟨y, hy⟩ : ∃ y, y = v.list[k]?.getD 0 := ⟨_, rfl⟩
                  have cx : wr.cell? ⟨b11, k, none⟩ = some (.int .u32 (u x)) := (h11.cell k).trans (by rw [List.getElem?_toArray, wcells_get _ _ (by rw [V8.list_length]; exact hlt), hx])
                  have cy : wr.cell? ⟨w.heap.size, k, none⟩ = some (.int .u32 (u y)) := (hH.cell k).trans (by rw [List.getElem?_toArray, wcells_get _ _ (by rw [mixW_length]; exact hlt), mixW_get _ _ _ hlt, hy])
                  have hs2 := w_set (mixW v V k) k (y + x)
                  rw [hx, hy, mixW_succ _ _ _ hlt, ← hx, ← hy] at hs2
                  have HS2 := Lib.hid hs2
                  clear hs2 hx hy
                  go_wp2_with fail
                  have g0 : (0 : Int) ≤ (k : Int) := by omega
                  have l0 : (k : Int) < (8 : Int) := by omega
                  go_still_tail 7, (by kernel_rfl)
                  change wpList _ _ _ _ _ wr.drew
                  have hH1 := hH.drew
                  have hO1 := hO.drew
                  have h12 := h11.drew
                  have hB1 := hB.drew
                  have cy1 : wr.drew.cell? ⟨w.heap.size, k, none⟩ = some (.int .u32 (u y)) := cy
                  have cf1 := hH1.frozen k
                  generalize wr.drew = W5 at *
                  clear cx cy hH hO h11 hB
                  go_wp2_with fail
                  have hH2 := hH1.set_ k (.int .u32 (u (y + x)))
                  rw [HS2.out] at hH2
                  have hO2 := hO1.far (p := ⟨w.heap.size, k, none⟩) (by simp; omega) (.int .u32 (u (y + x)))
                  have h13 := h12.far (p := ⟨w.heap.size, k, none⟩) (by simp; omega) (.int .u32 (u (y + x)))
                  have hB2 := hB1.setCell (p := ⟨w.heap.size, k, none⟩) (by simp) (.int .u32 (u (y + x)))
                  go_roundw
                  case rel =>
                    (repeat apply Exists.intro)
                    refine ⟨?_, rfl⟩
                    exact ⟨k + 1, by omega, by go_num, hH2, hO2, h13, hB2⟩
                  case measure => simp [intOf]; omega
                · obtain rfl : k = 8 := by omega
                  rw [mixW_all, ← HC.out] at hH
                  obtain ⟨X, hX⟩ : ∃ X : V8, X = comp v p := ⟨_, rfl⟩
                  rw [← hX] at hH
                  have HX := Lib.hid hX
                  clear hX HC h11
                  go_wp2_with (first
                    | ((with_reducible refine at_load 75 ?_); refine wpList_loadAll _ rfl 75 _ rfl w.heap.size 75 (wcells X.list).toArray hH _ rfl Tryd.underlying75 rfl (by kernel_rfl) ?_)
                    | ((with_reducible refine at_store 75 ?_); refine wpList_storeAll _ rfl 75 _ _ rfl b4 75 _ (wcells X.list).toArray hO rfl rfl (by kernel_rfl) (by kernel_rfl) (fun v hv => wcells_one _ v (by simpa using hv)) ?_; intro w5 h14 hg5 hs5))
                  refine bodyPost_ret (results_cell_row rfl _ _ b4 _ _ _ _ rfl h14 Tryd.underlying75 rfl (by kernel_rfl)) rfl ⟨by rw [HX.out], ?_⟩
                  exact grown_below hB hg5 hB.size (by omega)
end Go.Proofs.YtapkhafgfbhkkaaDoor
