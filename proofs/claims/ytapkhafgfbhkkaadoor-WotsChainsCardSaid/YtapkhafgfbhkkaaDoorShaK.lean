/-
  Walks: portreeveref03.Pad, Sum.
-/
import Derived.Test.YtapkhafgfbhkkaaDoorShaE
import Derived.Test.YtapkhafgfbhkkaaDoorShaH
import Derived.Test.YtapkhafgfbhkkaaDoorWordC
namespace Go.Proofs.YtapkhafgfbhkkaaDoor
open Go.RowKit Sha

theorem own_nil (w : World) (base size : Nat) (e : TypeId) : w.ownsRow base e size (.slice none 0 0) 0 [] := ⟨by simp, .inl ⟨rfl, rfl⟩⟩
set_option maxHeartbeats 1000000 in
theorem rpad_any (n : Nat) (hn : n ≤ 1000000000) (w : World) :
    Calls Tryd.prog 56 #[.int .u64 (n : Int)] w fun e w' => ∃ A c, e = .returned (.slice A (pad n).length c) ∧ w'.ownsRow w.heap.size 5 1 (.slice A (pad n).length c) (pad n).length (bcells (pad n)) ∧ Below w.heap.size w w' := by
  have hpl := pad_length n
  have hpe := pad_eq n hn
  obtain ⟨z, hz⟩ : ∃ z, z = padZ n := ⟨_, rfl⟩
  rw [← hz] at hpl hpe
  have hz64 : z < 64 := by rw [hz]; unfold padZ; omega
  have hzn : (n + 9 + z) % 64 = 0 := by rw [hz]; unfold padZ; omega
  have Hpl := Lib.hid hpl
  have Hpe := Lib.hid hpe
  have Hzn := Lib.hid hzn
  clear hz hpl hpe hzn
  go_enter Tryd.func56, Tryd.ntmps56
  go_wp2_with fail
  have hb1 := Blk.new w 5 #[.int .u8 128]
  have hB1 : Below w.heap.size w (w.alloc (.cells #[.int .u8 128] 5)) := (Below.refl _ _).alloc (Nat.le_refl _) _
  have hO1 := hb1.own (base := w.heap.size) (size := 1) (n := 1) (m := 1) (Nat.le_refl _) rfl (Nat.le_refl _) (by omega)
  generalize w.alloc (.cells #[.int .u8 128] 5) = w1 at *
  clear hb1
  go_loopw [3] (fun s wr => ∃ k A c, k ≤ z ∧ s = .slice A (1 + k) c ∧ wr.ownsRow w.heap.size 5 1 (.slice A (1 + k) c) (1 + k) (bcells (128 :: List.replicate k 0)) ∧ Below w.heap.size w wr) (fun s _ => 100 - sliceLen s)
  case atStart => exact ⟨0, _, _, Nat.zero_le _, rfl, hO1, hB1⟩
  case round =>
    clear hO1 hB1
    obtain ⟨k, A, c, hk, rfl, hO, hB⟩ := hrel
    by_cases hlt : k < z
    · have hne : ((((n : Int) + (1 + (k : Int)) + 8) % 64) != 0) = true := by have := Hzn.out; simp; omega
      have hne2 : ((((n : Int) + (1 + (k : Int)) + 8) % 64) == 0) = false := by have := Hzn.out; simp; omega
      go_wp2_with (at_builtin; refine wpList_app1 wr el8 rfl _ _ rfl w.heap.size A (1 + k) c _ rfl hO (.int .u8 0) rfl rfl (by omega) (by omega) hB.size ?_; intro A3 c3 w3 hO3 hg3 hB3)
      have hO4 : w3.ownsRow w.heap.size 5 1 (.slice A3 (1 + (k + 1)) c3) (1 + (k + 1)) (bcells (128 :: List.replicate (k + 1) 0)) := by
        have e : bcells (128 :: List.replicate (k + 1) 0) = bcells (128 :: List.replicate k 0) ++ [.int .u8 0] := by
          rw [List.replicate_succ', ← List.cons_append, bcells_append]; rfl
        rw [e, ← Nat.add_assoc]; exact hO3
      have hB4 := hB.trans hB3
      clear hO hO3 hB hg3 hB3 hne hne2
      go_roundw
      case rel => exact ⟨k + 1, A3, c3, by omega, rfl, hO4, hB4⟩
      case measure => simp [sliceLen]; omega
    · obtain rfl : k = z := by omega
      have hne : ((((n : Int) + (1 + (k : Int)) + 8) % 64) != 0) = false := by have := Hzn.out; simp; omega
      have hne2 : ((((n : Int) + (1 + (k : Int)) + 8) % 64) == 0) = true := by have := Hzn.out; simp; omega
      have hRd := Rd.of_own hO
      go_wp2_with fail
      refine (rput_any A (1 + k) c false (128 :: List.replicate k 0) wr (8 * n) 8 hRd (by omega) (by omega)).mono ?_
      rintro e w4 ⟨A4, c4, rfl, hO4, hB4⟩
      have e1 : putNum (8 * n) 8 false = putAll [8 * n] 8 false := by simp [putAll]
      rw [e1, Hpe.out, ← Hpl.out] at hO4
      rw [← Hpl.out]
      have hO5 := own_baseS hO4 hB.size
      have hB5 := hB.trans (hB4.mono hB.size)
      clear hO hO4 hB hB4 e1 hne hne2 hRd
      go_wp2
      go_ret
      exact ⟨A4, c4, rfl, hO5, hB5⟩

/-- the first q bytes of a sum, and 0 behind them -/
def outp (v : V8) (q : Nat) : List UInt8 := (out v).take q ++ List.replicate (32 - q) 0
theorem outp_length (v : V8) (q : Nat) (h : q ≤ 32) : (outp v q).length = 32 := by
  unfold outp; rw [List.length_append, List.length_take, List.length_replicate, out_length]; omega
theorem outp_set (v : V8) (q : Nat) (h : q < 32) (c : UInt8) (hc : (out v)[q]? = some c) : (outp v q).set q c = outp v (q + 1) := by
  unfold outp
  have hl : ((out v).take q).length = q := by rw [List.length_take, out_length]; omega
  rw [List.set_append_right _ _ (by omega), hl, Nat.sub_self, show 32 - q = (32 - (q + 1)) + 1 by omega, List.replicate_succ, List.set_cons_zero]
  rw [List.take_succ_eq_append_getElem (by rw [out_length]; exact h)]
  rw [List.getElem?_eq_getElem (by rw [out_length]; exact h)] at hc
  cases hc
  rw [List.append_assoc]
  rfl
theorem out_get (v : V8) (i j : Nat) (hi : i < 8) (hj : j < 4) (x : W) (hx : x = v.list[i]?.getD 0) : (out v)[4 * i + j]? = some (ob (x >>> (24 - 8 * j))) := by
  subst hx
  have h1 : ∀ y : W, ob (y >>> 0) = ob y := fun y => by rw [BitVec.ushiftRight_zero]
  match i, j with
  | 0, 0 => rfl
  | 0, 1 => rfl
  | 0, 2 => rfl
  | 0, 3 => exact congrArg some (h1 _).symm
  | 1, 0 => rfl
  | 1, 1 => rfl
  | 1, 2 => rfl
  | 1, 3 => exact congrArg some (h1 _).symm
  | 2, 0 => rfl
  | 2, 1 => rfl
  | 2, 2 => rfl
  | 2, 3 => exact congrArg some (h1 _).symm
  | 3, 0 => rfl
  | 3, 1 => rfl
  | 3, 2 => rfl
  | 3, 3 => exact congrArg some (h1 _).symm
  | 4, 0 => rfl
  | 4, 1 => rfl
  | 4, 2 => rfl
  | 4, 3 => exact congrArg some (h1 _).symm
  | 5, 0 => rfl
  | 5, 1 => rfl
  | 5, 2 => rfl
  | 5, 3 => exact congrArg some (h1 _).symm
  | 6, 0 => rfl
  | 6, 1 => rfl
  | 6, 2 => rfl
  | 6, 3 => exact congrArg some (h1 _).symm
  | 7, 0 => rfl
  | 7, 1 => rfl
  | 7, 2 => rfl
  | 7, 3 => exact congrArg some (h1 _).symm
attribute [local go_sem] u_shr24 u_shr16 u_shr8 u_shr u_ob u_ob'

set_option maxRecDepth 100000 in
set_option maxHeartbeats 4000000 in
theorem rsum_any (A : Option Addr) (n c : Nat) (b : List UInt8) (w : World) (hR : Rd w w.heap.size 1 A n (bcells b)) (hn : n ≤ 1000000) :
    Calls Tryd.prog 41 #[.slice A n c] w fun e w' => e = .returned (.agg (bcells (Sha.sum b)).toArray) ∧ Below w.heap.size w w' := by
  have hbl : b.length = n := by have := hR.len; rw [bcells_length] at this; omega
  have Hbl := Lib.hid hbl
  have hz := zeroNode
  have hz8 := zero8w
  go_enter Tryd.func41, Tryd.ntmps41
  have hN0 := Blk.new w 27 zn
  have hB0 : Below w.heap.size w (w.alloc (.cells zn 27)) := (Below.refl _ _).alloc (Nat.le_refl _) _
  have hs0 : (w.alloc (.cells zn 27)).heap.size = w.heap.size + 1 := by simp
  obtain ⟨W0, hW0⟩ : ∃ W0, W0 = w.alloc (.cells zn 27) := ⟨_, rfl⟩
  rw [← hW0] at hN0 hB0 hs0
  have HW0 := Lib.hid hW0
  have HS0 := Lib.hid hs0
  clear hbl hW0 hs0
  have hR0 := (hR.below hB0)
  go_wp2_with (at_builtin; rw [← HW0.out]; refine wpList_app W0 el8 rfl _ _ rfl W0.heap.size none 0 0 [] rfl (own_nil W0 _ _ _) w.heap.size A n c (bcells b) rfl hR0 (bcells_one b) (by omega) (by omega) (Nat.le_refl _) ?_; intro A1 c1 W1 hO1 hg1 hB1 _)
  have hN1 := hN0.below hB1 (by have := HS0.out; omega)
  have hB2 := hB0.trans (hB1.mono hB0.size)
  rw [Nat.zero_add, List.nil_append] at hO1
  refine (rpad_any n (by omega) W1).mono ?_
  rintro e W2 ⟨A2, c2, rfl, hO2, hB3⟩
  have hO1' := own_baseS hO1 (Nat.le_of_lt (show w.heap.size < W0.heap.size by have := HS0.out; omega))
  have hO3 := own_chg hO1 (Chg.of_ext (Z := fun _ => False) hB3) (fun _ _ h => h)
  have hN2 := hN1.below hB3 (by have := hB1.size; have := HS0.out; omega)
  have hB4 := hB2.trans (hB3.mono hB2.size)
  have hpl := pad_length n
  have hpz : padZ n < 64 := by unfold padZ; omega
  have Hpl := Lib.hid hpl
  have hR2 := Rd.of_own hO2
  obtain ⟨PN, hPN⟩ : ∃ PN, PN = (pad n).length := ⟨_, rfl⟩
  have hPN1 : PN ≤ 72 := by omega
  rw [← hPN] at hO2 hR2 ⊢
  have HPN := Lib.hid hPN
  have hW0s : W0.heap.size ≤ W2.heap.size := Nat.le_trans hB1.size hB3.size
  clear hpl hPN hpz hO1 hO1' hN0 hN1 hB0 hB1 hB2 hB3 hg1
  go_wp2_with (at_builtin; refine wpList_app W2 el8 rfl _ _ rfl W0.heap.size A1 n c1 _ rfl hO3 W2.heap.size A2 PN c2 (bcells (pad n)) rfl hR2 (bcells_one _) (by omega) (by omega) hW0s ?_; intro A3 c3 W3 hO4 hg4 hB5 _)
  have hN3 := hN2.below hB5 (by have := HS0.out; omega)
  have hB6 := hB4.trans (hB5.mono (by have := HS0.out; omega))
  rw [← bcells_append] at hO4
  have hRM := Rd.of_own hO4
  obtain ⟨hcap1, hcap2⟩ := own_cap hO4
  obtain ⟨M, hM⟩ : ∃ M, M = b ++ pad n := ⟨_, rfl⟩
  have hML : M.length = n + PN := by rw [hM, List.length_append, Hbl.out, HPN.out]
  have hMT : 64 * ((n + PN) / 64) = n + PN := by have := pad_whole n; rw [HPN.out]; exact this
  rw [← hM] at hRM
  obtain ⟨T, hT⟩ : ∃ T, T = n + PN := ⟨_, rfl⟩
  rw [← hT] at hRM hML hMT hcap1 ⊢
  have HM := Lib.hid hM
  have HML := Lib.hid hML
  have HMT := Lib.hid hMT
  have HT := Lib.hid hT
  have hTb : T ≤ 1000100 := by omega
  clear hM hML hMT hT hO2 hO3 hO4 hN2 hB4 hB5 hg4 hR0 hR2 hPN1
  have hNW : w.heap.size < W3.heap.size := hN3.lt
  go_wp2_with fail
  refine (rinit_any W3).mono ?_
  rintro e W4 ⟨rfl, hB7⟩
  have hN4 := hN3.below hB7 hNW
  have hB8 := hB6.trans (hB7.mono hB6.size)
  have hRM4 := hRM.below hB7
  have hs4 := hB7.size
  clear hN3 hB6 hB7 hRM
  go_wp2_with ((with_reducible refine at_store 75 ?_); refine wpList_storeAll _ rfl 75 _ _ rfl W4.heap.size 75 _ (wcells h0.list).toArray (Blk.new W4 75 z8) rfl rfl (by kernel_rfl) (by kernel_rfl) (fun v hv => wcells_one _ v (by simpa using hv)) ?_; intro w5 h11 hg5 hs5)
  have hC5 : Chg (fun k => k = W4.heap.size) W4 w5 := ((Chg.refl _ W4).alloc _).trans (Chg.grown hg5 (by rintro j h; cases h; rfl))
  have hN5 := hN4.chg hC5 (show ¬ w.heap.size = W4.heap.size by omega)
  have hB9 : Below w.heap.size w w5 := hB8.trans (hC5.below (fun k hk => by have hk : k = W4.heap.size := hk; omega) (by omega))
  have hRM5 := (hRM4.more hs4).chg hC5 (Nat.le_refl _) (fun k hk => by have hk : k = W4.heap.size := hk; omega)
  obtain ⟨g4, hg4⟩ : ∃ g, g = W4.heap.size := ⟨_, rfl⟩
  rw [← hg4] at h11 hRM5 hs4 ⊢
  have hgl : w.heap.size < g4 := by omega
  have hgs5 : g4 < w5.heap.size := h11.lt
  clear hg4 hC5 hg5 hs5 hN4 hB8 hRM4 hz8 hs4
  go_wp2_with fail
  simp only [Act.put]
  go_loopw [3] (fun s wr => ∃ j A1 c1, s = .slice A1 (T - 64 * j) c1 ∧ 64 * j ≤ T ∧ T - 64 * j ≤ c1 ∧ Rd wr g4 1 A1 (T - 64 * j) (bcells (M.drop (64 * j))) ∧ Blk wr g4 75 (wcells (eats h0 M j).list).toArray ∧ Below g4 w5 wr) (fun s _ => sliceLen s)
  case atStart => exact ⟨0, A3, c3, rfl, by omega, hcap1, by simpa using hRM5, h11, Below.refl _ _⟩
  case round =>
    clear hRM5 h11
    obtain ⟨j, A1, c1, rfl, hj, hc1, hRj, hV, hBw⟩ := hrel
    have hN6 := hN5.below hBw hgl
    by_cases hlt : 64 * j < T
    · --<1
      have h64 : 64 ≤ T - 64 * j := by have := HMT.out; omega
      have h0 : (0 : Int) < ((T - 64 * j : Nat) : Int) := by omega
      have c64 : (64 : Int) ≤ (c1 : Int) := by omega
      generalize hN1 : T - 64 * j = N1 at *
      have HN1 := Lib.hid hN1.symm
      obtain ⟨p, hp2⟩ : ∃ p, p = (M.drop (64 * j)).take 64 := ⟨_, rfl⟩
      have hp : p.length = 64 := by rw [hp2]; have := HML.out; simp; omega
      have hRp0 := hRj.front (k := 64) h64
      have hRp : Rd wr.drew g4 1 A1 64 (bcells p) := by
        rw [hp2]
        have : (bcells (M.drop (64 * j))).take (64 * 1) = bcells ((M.drop (64 * j)).take 64) := by simp [bcells, List.map_take]
        rw [← this]; exact hRp0.drew
      obtain ⟨V, hVV⟩ : ∃ V, V = eats Sha.h0 M j := ⟨_, rfl⟩
      rw [← hVV] at hV
      obtain ⟨X, hXX⟩ : ∃ X, X = comp V p := ⟨_, rfl⟩
      have hnx : eats Sha.h0 M (j + 1) = X := by
        show comp (eats Sha.h0 M j) ((M.drop (64 * j)).take 64) = _
        rw [← hVV, ← hp2, hXX]
      have HP := Lib.hid hp
      have HXX := Lib.hid hXX
      have Hnx := Lib.hid hnx
      have hgs : g4 ≤ wr.drew.heap.size := Nat.le_of_lt hV.lt
      clear hp2 hp hRp0 hVV hXX hnx hN1
      go_wp2_with fail
      refine Flow.wp_region_flow (g4) [(4, fun b => b = g4)] [(0, fun W => Blk W g4 75 ((wcells V.list).toArray)), (4, fun W => Blk W g4 75 ((wcells V.list).toArray))] (by kernel_rfl) (by kernel_rfl) hgs (Flow.nz_cons (by rintro b rfl; exact Nat.le_refl _) Flow.nz_nil) (Flow.facts_cons (hV.drew) (Flow.kept_blk id) (Flow.fz_cons (Flow.no_follow (by kernel_rfl)) Flow.fz_nil) (Flow.facts_cons (hV.drew) (Flow.kept_blk id) (Flow.fz_cons (Flow.no_follow (by kernel_rfl)) Flow.fz_nil) Flow.facts_nil)) ?_
      refine Flow.pass_val (.agg (wcells V.list).toArray) (Flow.met_none rfl) (fun a W hH => ?_) ?_
      · have e0 := Flow.see_old 4 hH.sees (by kernel_rfl) (by kernel_rfl) rfl
        have fa0 : (fun W => Blk W g4 75 ((wcells V.list).toArray)) W := hH.fact _ (List.mem_of_getElem? (i := 0) rfl) rfl
        exact reg_load 75 4 rfl e0 fa0 Tryd.underlying75 rfl (by kernel_rfl)
      refine Flow.pass_old 3 (Flow.met_none rfl) (.inl rfl) (by kernel_rfl) (by kernel_rfl) rfl ?_
      refine Flow.pass_val (.slice A1 64 c1) (Flow.met_none rfl) (fun a W hH => ?_) ?_
      · have e0 := Flow.see_new 20 1 hH.sees (by kernel_rfl) (by kernel_rfl) rfl rfl
        go_simp; first | done | rfl
      refine Flow.pass_step (Reg.eqs (.agg (wcells (comp V p).list).toArray)) (fun _ _ => Flow.kept_eqs _ _) (Flow.met_none rfl) (fun a W hH => ?_) ?_
      · have e0 := Flow.see_new 19 0 hH.sees (by kernel_rfl) (by kernel_rfl) rfl rfl
        have e1 := Flow.see_new 21 2 hH.sees (by kernel_rfl) (by kernel_rfl) rfl rfl
        refine Reg.wp_call rfl Tryd.func58 rfl (by kernel_rfl) (by simp [Act.eval, e0, e1]) (rblock_any A1 c1 p HP.out V W ((hRp.below hH.below).more (Nat.le_trans hgs hH.below.size))) ?_
        rintro e w' ⟨rfl, hB⟩
        exact ⟨_, rfl, _, rfl, hB, rfl⟩
      refine Flow.pass_list (fun _ W => Blk W g4 75 (wcells X.list).toArray) (Flow.kept_of (fun _ _ _ c h => h.chg c id) (Flow.kz_cons (Flow.no_follow (by kernel_rfl)) Flow.kz_nil)) (Flow.met_none rfl) (fun a W hH => ?_) ?_
      · have e0 := Flow.see_old 4 hH.sees (by kernel_rfl) (by kernel_rfl) rfl
        have e1 := Flow.see_new 22 3 hH.sees (by kernel_rfl) (by kernel_rfl) rfl rfl
        have fa1 : (fun W => Blk W g4 75 ((wcells V.list).toArray)) W := hH.fact _ (List.mem_of_getElem? (i := 1) rfl) rfl
        rw [← HXX.out] at e1
        refine wpList_storeAll W rfl 75 _ _ rfl g4 75 _ (wcells X.list).toArray fa1 (by simpa [Act.eval] using e0) (by simpa [Act.eval] using e1) (by kernel_rfl) (by kernel_rfl) (fun v hv => wcells_one _ v (by simpa using hv)) ?_
        intro W2 h2 hg _
        exact Flow.qq_nil ⟨_, rfl, Chg.grown hg (by rintro k h; cases h; rfl), h2⟩
      refine Flow.pass_end [none, none, none, none, none, none, none, none, none, none, none, none, none, none, none, none, none, none, none, some 19, some 20, some 21, some 22, none, none, none, none, none, none, none, none, none, none, none, none, none, none, none, none, none, none, none, none, none, none, none, none] (by kernel_rfl) ?_
      intro f gg w9 hB9' hfa hT' hfg
      have h4 := hT' 4 _ (by kernel_rfl) rfl
      have hBw9 := (hBw.drew).trans hB9'
      have hRj9 := (hRj.drew).below hB9'
      clear hfa hT' hfg hB9' hRp hRj hV hBw
      simp only [Reg.sel]
      rw [← Hnx.out] at h4
      go_wp2_with ((with_reducible refine at_slice 25 ?_); refine wpList_from w9 rfl Tryd.underlying25 (by kernel_rfl) _ _ rfl A1 N1 c1 rfl .i64 64 rfl 64 rfl h64 hc1 ?_; intro A2' hcut)
      have hR10 := hcut _ _ _ hRj9
      have e1 : N1 - 64 = T - 64 * (j + 1) := by have := HN1.out; omega
      have e2 : (bcells (M.drop (64 * j))).drop 64 = bcells (M.drop (64 * (j + 1))) := by
        simp only [bcells, ← List.map_drop, List.drop_drop]
        rw [show 64 * j + 64 = 64 * (j + 1) by omega]
      rw [e1, e2] at hR10
      clear hcut hRj9
      go_roundw
      case rel => exact ⟨j + 1, A2', c1 - 64, by rw [e1], by have := HN1.out; omega, by omega, hR10, h4, hBw9⟩
      case measure => simp [sliceLen]; omega
      --1>
    · have hjT : T - 64 * j = 0 := by omega
      have hj64 : j = T / 64 := by have := HMT.out; omega
      obtain ⟨v, hv⟩ : ∃ v, v = eats Sha.h0 M j := ⟨_, rfl⟩
      rw [← hv] at hV
      have hout : Sha.sum b = out v := by
        unfold Sha.sum
        rw [Hbl.out, ← HPN.out, ← HT.out, ← HM.out, ← hj64, hv]
      have Hout := Lib.hid hout
      have hB10 := hB9.trans (hBw.mono (Nat.le_of_lt hgl))
      rw [hjT]
      clear hv hout hj64 hjT hRj hlt hc1 hj hN5 hB9 hBw
      have hg45 : g4 < wr.heap.size := hV.lt
      go_wp2_with fail
      have hM6 := Blk.new wr 27 zn
      have hV6 := hV.alloc (.cells zn 27)
      have hN7 := hN6.alloc (.cells zn 27)
      have hB11 := hB10.alloc hB10.size (.cells zn 27)
      generalize wr.alloc (.cells zn 27) = W6 at *
      generalize wr.heap.size = g5 at *
      clear hV hN6 hB10 hz
      go_loopw [6] (fun i wq => ∃ k : Nat, k ≤ 8 ∧ i = .int .i64 k ∧ Blk wq g5 27 (bcells (outp v (4 * k))).toArray ∧ Blk wq g4 75 (wcells v.list).toArray ∧ Blk wq w.heap.size 27 zn ∧ Below w.heap.size w wq) (fun i _ => 8 - (intOf i).toNat)
      case atStart => exact ⟨0, by omega, rfl, hM6, hV6, hN7, hB11⟩
      case round =>
        clear hM6 hV6 hN7 hB11
        obtain ⟨k, hk8, rfl, hM, hV, hN, hB⟩ := hrel
        by_cases hlt : k < 8
        · go_wp2_with fail
          go_loopw [7] (fun i wq => ∃ j : Nat, j ≤ 4 ∧ i = .int .i64 j ∧ Blk wq g5 27 (bcells (outp v (4 * k + j))).toArray ∧ Blk wq g4 75 (wcells v.list).toArray ∧ Blk wq w.heap.size 27 zn ∧ Below w.heap.size w wq) (fun i _ => 4 - (intOf i).toNat)
          case atStart => exact ⟨0, by omega, rfl, hM, hV, hN, hB⟩
          case round =>
            clear hM hV hN hB
            obtain ⟨j, hj4, rfl, hM, hV, hN, hB⟩ := hrel
            by_cases hjt : j < 4
            · obtain ⟨x, hx⟩ : ∃ x, x = v.list[k]?.getD 0 := ⟨_, rfl⟩
              have cx : wr.cell? ⟨g4, k, none⟩ = some (.int .u32 (u x)) := by
                rw [hx]; exact (hV.cell k).trans (by rw [List.getElem?_toArray]; exact wcells_get v.list k hlt)
              have hos := outp_set v (4 * k + j) (by omega) _ (out_get v k j hlt hjt x hx)
              have Hos := Lib.hid hos
              have hol : (bcells (outp v (4 * k + j))).toArray.size = 32 := by simp [bcells_length, outp_length v (4 * k + j) (by omega)]
              obtain ⟨y0, hy0⟩ : ∃ y, wr.cell? ⟨g5, 4 * k + j, none⟩ = some y := by rw [hM.cell]; exact ⟨_, Array.getElem?_eq_getElem (by rw [hol]; omega)⟩
              have f0 := hM.frozen (4 * k + j)
              have hM4 := hM.set_ (4 * k + j) (.int .u8 ((ob (x >>> (24 - 8 * j))).toNat : Int))
              rw [bset, Hos.out] at hM4
              have hN4 := hN.far (p := ⟨g5, 4 * k + j, none⟩) (show w.heap.size ≠ g5 by omega) (.int .u8 ((ob (x >>> (24 - 8 * j))).toNat : Int))
              have hV4 := hV.far (p := ⟨g5, 4 * k + j, none⟩) (show g4 ≠ g5 by omega) (.int .u8 ((ob (x >>> (24 - 8 * j))).toNat : Int))
              have hB4 := hB.setCell (p := ⟨g5, 4 * k + j, none⟩) (show w.heap.size ≤ g5 by omega) (.int .u8 ((ob (x >>> (24 - 8 * j))).toNat : Int))
              have e24 : ((24 : Int) - 8 * (j : Int)).toNat = 24 - 8 * j := by omega
              clear hx hos hol hM hN hV hB
              go_wp2_with fail
              go_roundw
              case rel => exact ⟨j + 1, by omega, by go_num, hM4, hV4, hN4, hB4⟩
              case measure => simp [intOf]; omega
            · obtain rfl : j = 4 := by omega
              rw [show 4 * k + 4 = 4 * (k + 1) by omega] at hM
              go_wp2_with fail
              go_roundw
              case rel => exact ⟨k + 1, by omega, by go_num, hM, hV, hN, hB⟩
              case measure => simp [intOf]; omega
        · obtain rfl : k = 8 := by omega
          have hout8 : outp v (4 * 8) = out v := by
            unfold outp
            rw [List.take_of_length_le (by rw [out_length]; exact Nat.le_refl _)]
            simp
          rw [hout8, ← Hout.out] at hM
          obtain ⟨S, hS⟩ : ∃ S, S = Sha.sum b := ⟨_, rfl⟩
          have hSl : S.length = 32 := by rw [hS, sum_length]
          rw [← hS] at hM
          have HSl := Lib.hid hSl
          have HSS := Lib.hid hS
          clear hS hSl Hout hout8
          go_wp2_with (first
            | ((with_reducible refine at_load 27 ?_); refine wpList_loadAll _ rfl 27 _ rfl g5 27 (bcells S).toArray hM _ rfl Tryd.underlying27 rfl (by rw [List.size_toArray, bcells_length, HSl.out]; kernel_rfl) ?_)
            | ((with_reducible refine at_store 27 ?_); refine wpList_storeAll _ rfl 27 _ _ rfl w.heap.size 27 _ (bcells S).toArray hN rfl rfl (by rw [List.size_toArray, bcells_length, HSl.out]; kernel_rfl) (by rw [List.size_toArray, bcells_length, HSl.out]; kernel_rfl) (fun v hv => bcells_one _ v (by simpa using hv)) ?_; intro w5 h14 hg5 hs5))
          refine bodyPost_ret (results_cell_row rfl _ _ w.heap.size _ _ _ _ rfl h14 Tryd.underlying27 rfl (by rw [List.size_toArray, bcells_length, HSl.out]; kernel_rfl)) rfl ⟨by rw [HSS.out], ?_⟩
          exact grown_below hB hg5 hB.size (Nat.le_refl _)
end Go.Proofs.YtapkhafgfbhkkaaDoor
