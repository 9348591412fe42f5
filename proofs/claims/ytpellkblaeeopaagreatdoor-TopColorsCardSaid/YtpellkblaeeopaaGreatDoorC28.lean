/-
  Parts: GcC GcE GcL GcM FlowU.
-/
import Derived.Test.YtpellkblaeeopaaGreatDoorC27
import Derived.Test.YtpellkblaeeopaaGreatDoorC16
import Derived.Test.YtpellkblaeeopaaGreatDoorC12
import Derived.Test.YtpellkblaeeopaaGreatDoorC25
import Derived.Test.YtpellkblaeeopaaGreatDoorC00
import Derived.Shelf.SlSortCmp.WholeK
import Derived.Test.YtpellkblaeeopaaGreatDoorC02
import Derived.Shelf.SlSortCmp.NoneTotal
/-
  Walk: the iterator color.pages: the pages of the room that have one of some colors.
-/
namespace Go.Proofs.YtpellkblaeeopaaGreatDoor
open Go.RowKit Go.Shelf

attribute [local go_sem] Oper.semAt_some

def hitSp (k : Nat) : Sp := ⟨1090519040 + 4096 * k, 4096⟩
def hitB (n mask k : Nat) : Bool := mask / 2 ^ ((266240 + k) % n) % 2 == 1
def hits (n mask K : Nat) : List Sp := ((List.range K).filter (hitB n mask)).map hitSp
theorem hits_succ (n mask k : Nat) : hits n mask (k + 1) = hits n mask k ++ (if hitB n mask k then [hitSp k] else []) := by
  unfold hits
  rw [List.range_succ, List.filter_append, List.map_append]
  congr 1
  cases h : hitB n mask k <;> simp [h]
theorem hits_prefix (n mask : Nat) : ∀ {j K : Nat}, j ≤ K → hits n mask j <+: hits n mask K
  | j, 0, h => by rw [Nat.le_zero.1 h]; exact List.prefix_refl _
  | j, K + 1, h => by
    rcases Nat.lt_or_eq_of_le h with h1 | rfl
    · exact (hits_prefix n mask (show j ≤ K by omega)).trans ⟨_, (hits_succ n mask K).symm⟩
    · exact List.prefix_refl _
theorem hits_length_le (n mask K : Nat) : (hits n mask K).length ≤ K := by
  unfold hits
  rw [List.length_map]
  exact Nat.le_trans (List.length_filter_le _ _) (by simp)
/-- some boxes lie as they lay, and so does all below -/
def KBs (Z : Nat → Prop) (n0 : Nat) (W W' : World) : Prop := (∀ b, Z b → W'.heap[b]? = W.heap[b]?) ∧ Below n0 W W'
theorem KBs.refl (Z : Nat → Prop) (n0 : Nat) (W : World) : KBs Z n0 W W := ⟨fun _ _ => rfl, Below.refl _ _⟩
theorem KBs.trans {Z : Nat → Prop} {n0 : Nat} {X Y W : World} (h : KBs Z n0 X Y) (k : KBs Z n0 Y W) : KBs Z n0 X W := ⟨fun b hb => (k.1 b hb).trans (h.1 b hb), h.2.trans k.2⟩

theorem run_spG (q : Nat) (w : World) : (Instr.build 25 #[(0, .int .u64 (q : Int)), (1, .int .u64 4096)]).run Tryz.prog w = .ok (.agg #[.int .u64 (q : Int), .int .u64 4096]) w := run_sp _ _ _
theorem run_shr (mask c : Nat) (hc : c < 64) (w : World) : (binOp BinOp.shr 22 (.int .u64 (mask : Int)) (.int .i64 (c : Int))).run Tryz.prog w = .ok (.int .u64 ((mask / 2 ^ c : Nat) : Int)) w := by simp [go_sem]

set_option maxRecDepth 100000 in
set_option maxHeartbeats 400000 in
theorem cpages_in (F : Fence) (n' : Nat) (h8 : F.fn 23) (hro : F.round = none) (n : Int) (mask : Nat) (w : World) :
    CallsIn F n' Tryz.prog 23 #[.agg roomA.cells, .int .i64 n, .int .u64 (mask : Int)] w fun e w' => e = .returned (.func (.func 54) #[] #[.pointer (some ⟨w.heap.size, 0, none⟩), .pointer (some ⟨w.heap.size + 1 + 1, 0, none⟩), .pointer (some ⟨w.heap.size + 1, 0, none⟩)]) ∧
      w' = ((w.alloc (.cells roomA.cells 25)).alloc (.cells #[.int .i64 n] 3)).alloc (.cells #[.int .u64 (mask : Int)] 22) := by
  refine callsIn_of_wp Tryz.func23 rfl h8 ?_ hro
  simp only [Tryz.ntmps23, List.size_toArray, List.length_cons, List.length_nil, Nat.reduceAdd, Nat.reduceSub, Array.replicate_succ, Array.replicate_zero, List.push_toArray, List.append_toArray, List.nil_append, List.cons_append]
  gi_wp2
  go_ret
  exact ⟨rfl, rfl⟩

/-- what a round is handed -/
abbrev spEncs (x : Sp) : Array Value := #[.agg x.cells]
set_option maxRecDepth 100000 in
set_option maxHeartbeats 4000000 in
theorem cpages1_in (n' l b1 b2 b3 n0 : Nat) (hn' : 1 ≤ n') (m mask : Nat) (hm : colN (m : Int) = true) (hmk : mask < 18446744073709551616) (Z : Nat → Prop) (hZ1 : Z b1) (hZ2 : Z b2) (hZ3 : Z b3) (Jv Jx : List Sp → World → Prop) (W : World) (hAb : AbidesFrom W.heap.size Jv)
    (hY : ∀ pre x W, Jv pre W → pre.length < 10000 → YieldAt Fence.wide (n' - 1) Tryz.prog l (spEncs x) W fun e W' =>
      (e = .returned (.bool true) ∧ Jv (pre ++ [x]) W' ∧ KBs Z n0 W W') ∨ (e = .returned (.bool false) ∧ Jx (pre ++ [x]) W'))
    (hn0 : n0 ≤ W.heap.size) (hZl : ∀ b, Z b → b < W.heap.size) (hB1 : Blk W b1 25 roomA.cells) (hB2 : Blk W b2 22 #[.int .u64 (mask : Int)]) (hB3 : Blk W b3 3 #[.int .i64 (m : Int)]) (h0 : Jv [] W) :
    CallsIn Fence.wide n' Tryz.prog 54 #[.func (.yield l) #[] #[], .pointer (some ⟨b1, 0, none⟩), .pointer (some ⟨b2, 0, none⟩), .pointer (some ⟨b3, 0, none⟩)] W fun e W' => (∃ v, e = .returned v) ∧
      ((∃ ys, ys = hits m mask 8192 ∧ Jv ys W') ∨ (∃ pre, pre <+: hits m mask 8192 ∧ Jx pre W')) := by
  have h7 := colN_cases hm
  have hm64 : 1 ≤ m ∧ m ≤ 64 := by omega
  have HM := Lib.hid hm
  have cs : W.cell? ⟨b1, 1, none⟩ = some (.int .u64 33554432) := (hB1.cell 1).trans rfl
  clear h7 hm
  refine callsIn_of_wp Tryz.func54 rfl trivial ?_ rfl
  simp only [Tryz.ntmps54, List.size_toArray, List.length_cons, List.length_nil, Nat.reduceAdd, Nat.reduceSub, Array.replicate_succ, Array.replicate_zero, List.push_toArray, List.append_toArray, List.nil_append, List.cons_append]
  gi_wp2
  gi_loopw [10] (fun i wr => ∃ k : Nat, k ≤ 8192 ∧ i = .int .u64 (k : Int) ∧ Jv (hits m mask k) wr ∧ KBs Z n0 W wr) (fun i _ => 8192 - (intOf i).toNat)
  case atStart => exact ⟨0, Nat.zero_le _, rfl, h0, KBs.refl _ _ _⟩
  case round =>
    obtain ⟨k, hk, rfl, hJs, hK⟩ := hrel
    by_cases hlt : k < 8192
    · have g1 : Blk wr b1 25 roomA.cells := (hK.1 b1 hZ1).trans hB1
      have g2 : Blk wr b2 22 #[.int .u64 (mask : Int)] := (hK.1 b2 hZ2).trans hB2
      have g3 : Blk wr b3 3 #[.int .i64 (m : Int)] := (hK.1 b3 hZ3).trans hB3
      have cb : wr.cell? ⟨b1, 0, none⟩ = some (.int .u64 1090519040) := (g1.cell 0).trans rfl
      obtain ⟨q, hq⟩ : ∃ q, q = 1090519040 + 4096 * k := ⟨_, rfl⟩
      have hqw : IntKind.u64.wrap (1090519040 + IntKind.u64.wrap ((k : Int) * 4096)) = (q : Int) := by rw [IntWalk.u64_in ((k : Int) * 4096) (by omega), IntWalk.u64_in _ (by omega)]; omega
      have hkw : IntKind.u64.wrap ((k : Int) * 4096) = ((4096 * k : Nat) : Int) := by rw [IntWalk.u64_in _ (by omega)]; omega
      have hqw2 : IntKind.u64.wrap (1090519040 + 4096 * (k : Int)) = (q : Int) := by rw [IntWalk.u64_in _ (by omega)]; omega
      obtain ⟨c, hc⟩ : ∃ c, c = (266240 + k) % m := ⟨_, rfl⟩
      have hc64 : c < 64 := by have := Nat.mod_lt (266240 + k) (show m > 0 by omega); omega
      have hcol : colorV q (m : Int) = (c : Int) := by
        rw [colorV, HM.out, if_pos rfl, hq, hc, show (1090519040 + 4096 * k) / 4096 = 266240 + k by omega, Int.toNat_natCast]
      obtain ⟨v, hv⟩ : ∃ v, v = mask / 2 ^ c := ⟨_, rfl⟩
      have hv64 : v < 18446744073709551616 := by rw [hv]; exact Nat.lt_of_le_of_lt (Nat.div_le_self _ _) hmk
      have hhit : hitB m mask k = (v % 2 == 1) := by rw [hitB, ← hc, ← hv]
      have hvand : bits BinOp.and IntKind.u64 (v : Int) 1 = ((v % 2 : Nat) : Int) := by
        rw [show (1 : Int) = ((1 : Nat) : Int) from rfl, u64_and_nat v 1 hv64 (by omega)]
        congr 1
        exact Nat.and_two_pow_sub_one_eq_mod v 1
      have hsp : spEncs (hitSp k) = #[.agg #[.int .u64 (q : Int), .int .u64 4096]] := by rw [hq]; rfl
      have hof := fun W => colOf_any q (by omega) (m : Int) W
      rw [hcol] at hof
      have Hsp := Lib.hid hsp
      have HV := Lib.hid hv
      clear hq hsp hcol hc cs hv
      have hshr := fun W => run_shr mask c hc64 W
      rw [← HV.out] at hshr
      gi_wp2
      by_cases hbit : v % 2 = 1
      · have Hh : Hid (hits m mask (k + 1) = hits m mask k ++ [hitSp k]) := Lib.hid (by rw [hits_succ, hhit, hbit]; rfl)
        clear hhit
        refine Reg.wpIn_region_tail Plain.wide (by kernel_rfl) 11 [] (by kernel_rfl) (by kernel_rfl) (by kernel_rfl) (by kernel_rfl) (by kernel_rfl) ?_
        refine Reg.pass_val (.int .u64 (mask : Int)) (Reg.met_none rfl) (fun a W hE hS => ?_) ?_
        · have e0 := Reg.see_old 2 hS (by kernel_rfl) (by kernel_rfl) rfl
          have cc : World.cell? W ⟨b2, 0, none⟩ = some (.int .u64 (mask : Int)) := ((g2.drew.ext hE).cell 0).trans rfl; go_simp; first | done | rfl
        refine Reg.pass_old (X := .int .u64 (q : Int)) 6 (Reg.met_none rfl) (.inl rfl) (by kernel_rfl) (by kernel_rfl) rfl ?_
        refine Reg.pass_val (.int .i64 (m : Int)) (Reg.met_none rfl) (fun a W hE hS => ?_) ?_
        · have e0 := Reg.see_old 3 hS (by kernel_rfl) (by kernel_rfl) rfl
          have cc : World.cell? W ⟨b3, 0, none⟩ = some (.int .i64 (m : Int)) := ((g3.drew.ext hE).cell 0).trans rfl; go_simp; first | done | rfl
        refine Reg.pass_step (Reg.eqs (.int .i64 (c : Int))) (Reg.stable_eqs _) (Reg.met_none rfl) (fun a W hE hS => ?_) ?_
        · have e0 := Reg.see_new 19 1 hS (by kernel_rfl) (by kernel_rfl) rfl rfl
          have e1 := Reg.see_new 20 2 hS (by kernel_rfl) (by kernel_rfl) rfl rfl
          refine Reg.wp_call rfl Tryz.func12 rfl (by kernel_rfl) (by simp [Act.eval, e0, e1]) (hof W) ?_
          rintro e w' ⟨rfl, rfl⟩
          exact ⟨_, rfl, _, rfl, Ext.refl _, rfl⟩
        refine Reg.pass_val (.int .u64 (v : Int)) (Reg.met_none rfl) (fun a W hE hS => ?_) ?_
        · have e0 := Reg.see_new 18 0 hS (by kernel_rfl) (by kernel_rfl) rfl rfl
          have e1 := Reg.see_new 21 3 hS (by kernel_rfl) (by kernel_rfl) rfl rfl
          go_simp; first | done | (rw [HV.out]; push_cast; rfl)
        refine Reg.pass_val (.int .u64 ((v % 2 : Nat) : Int)) (Reg.met_none rfl) (fun a W hE hS => ?_) ?_
        · have e0 := Reg.see_new 22 4 hS (by kernel_rfl) (by kernel_rfl) rfl rfl
          go_simp; first | done | rfl | rw [hvand] | (simp [hvand]; done)
        refine Reg.pass_val (.bool true) (Reg.met_none rfl) (fun a W hE hS => ?_) ?_
        · have e0 := Reg.see_new 23 5 hS (by kernel_rfl) (by kernel_rfl) rfl rfl
          go_simp; first | done | rfl | (simp [hbit]; done)
        refine Reg.pass_copy 24 6 (Reg.met_none rfl) (.inl rfl) (by kernel_rfl) (by kernel_rfl) rfl rfl (Reg.stable_eqs _) ?_
        refine Reg.pass_old (X := .func (.yield l) #[] #[]) 0 (Reg.met_some 7 true 25 rfl rfl (by kernel_rfl) (by kernel_rfl) rfl rfl) (.inl rfl) (by kernel_rfl) (by kernel_rfl) rfl ?_
        refine Reg.pass_old (X := .int .u64 (q : Int)) 6 (Reg.met_some 7 true 25 rfl rfl (by kernel_rfl) (by kernel_rfl) rfl rfl) (.inl rfl) (by kernel_rfl) (by kernel_rfl) rfl ?_
        refine Reg.pass_val (.agg #[.int .u64 (q : Int), .int .u64 4096]) (Reg.met_some 7 true 25 rfl rfl (by kernel_rfl) (by kernel_rfl) rfl rfl) (fun a W hE hS => ?_) ?_
        · have e0 := Reg.see_new 27 9 hS (by kernel_rfl) (by kernel_rfl) rfl rfl
          exact Flow.reg_build _ rfl (by simp [Act.eval, e0]) (run_spG q W)
        refine ⟨(fun i hi => by cases hi), ?_⟩
        refine Reg.tail_end [none, none, none, none, none, none, none, none, none, none, none, none, none, none, none, none, none, none, some 18, some 19, some 20, some 21, some 22, some 23, some 24, some 25, some 26, some 27, some 28, none, none, none, none] (by kernel_rfl) ?_
        intro ff w9 hE hf hfr
        have h18 : ff 18 = _ := hf 18 0 _ (by kernel_rfl) (by decide) rfl
        have h19 : ff 19 = _ := hf 19 1 _ (by kernel_rfl) (by decide) rfl
        have h20 : ff 20 = _ := hf 20 2 _ (by kernel_rfl) (by decide) rfl
        have h21 : ff 21 = _ := hf 21 3 _ (by kernel_rfl) (by decide) rfl
        have h22 : ff 22 = _ := hf 22 4 _ (by kernel_rfl) (by decide) rfl
        have h23 : ff 23 = _ := hf 23 5 _ (by kernel_rfl) (by decide) rfl
        have h24 : ff 24 = _ := hf 24 6 _ (by kernel_rfl) (by decide) rfl
        have h25 : ff 25 = _ := hf 25 7 _ (by kernel_rfl) (by decide) rfl
        have h26 : ff 26 = _ := hf 26 8 _ (by kernel_rfl) (by decide) rfl
        have h27 : ff 27 = _ := hf 27 9 _ (by kernel_rfl) (by decide) rfl
        have h28 : ff 28 = _ := hf 28 10 _ (by kernel_rfl) (by decide) rfl
        clear hf hfr 
        have hJ9 : Jv (hits m mask k) w9 := hAb _ _ _ none hJs ⟨hE.os, hE.tape, hE.output, hE.size, fun k hk _ => hE.block k hk⟩ (fun r e => by cases e)
        have hK9 : KBs Z n0 W w9 := ⟨fun b hb => by
          have h1 := hK.1 b hb
          rcases Nat.lt_or_ge b wr.heap.size with h2 | h2
          · exact (hE.block b h2).trans h1
          · exact absurd (hZl b hb) (by have := hK.2.size; omega), hK.2.drew.trans (hE.mono (Nat.le_trans hn0 hK.2.size))⟩
        have hyy := hY _ (hitSp k) w9 hJ9 (by have := hits_length_le m mask k; omega)
        rw [Hsp.out] at hyy
        obtain ⟨fn, tmps, assign, body, hy, hR⟩ := hyy
        clear hE hJs g1 g2 g3 cb
        simp only [Reg.sel, h18, h19, h20, h21, h22, h23, h24, h25, h26, h27, h28, List.drop_succ_cons, List.drop_zero]
        gi_wp2
        refine hR.mono ?_
        rintro e W3 (⟨rfl, hJ3, hk3⟩ | ⟨rfl, hJx3⟩)
        · gi_wp2
          go_roundw
          case rel => exact ⟨k + 1, by omega, by simp, by rw [Hh.out]; exact hJ3, hK9.trans hk3⟩
          case measure => simp [intOf]; omega
        · gi_wp2
          refine bodyPost_ret (results_none rfl _ _ _) rfl ?_
          exact ⟨⟨_, rfl⟩, .inr ⟨_, by rw [← Hh.out]; exact hits_prefix m mask (by omega), hJx3⟩⟩
      · have hbit : v % 2 = 0 := by omega
        have Hh : Hid (hits m mask (k + 1) = hits m mask k) := Lib.hid (by rw [hits_succ, hhit, hbit]; simp)
        clear hhit
        refine Flow.wpIn_region_flow Plain.wide (by kernel_rfl) (wr.heap.size) [] [] (by kernel_rfl) (by kernel_rfl) (Nat.le_refl _) (fun _ h => by cases h) Flow.facts_nil ?_
        refine Flow.pass_val (.int .u64 (mask : Int)) (Flow.met_none rfl) (fun a W hH => ?_) ?_
        · have e0 := Flow.see_old 2 hH.sees (by kernel_rfl) (by kernel_rfl) rfl
          have cc : World.cell? W ⟨b2, 0, none⟩ = some (.int .u64 (mask : Int)) := ((g2.drew.below hH.below g2.lt).cell 0).trans rfl; go_simp; first | done | rfl
        refine Flow.pass_old (X := .int .u64 (q : Int)) 6 (Flow.met_none rfl) (.inl rfl) (by kernel_rfl) (by kernel_rfl) rfl ?_
        refine Flow.pass_val (.int .i64 (m : Int)) (Flow.met_none rfl) (fun a W hH => ?_) ?_
        · have e0 := Flow.see_old 3 hH.sees (by kernel_rfl) (by kernel_rfl) rfl
          have cc : World.cell? W ⟨b3, 0, none⟩ = some (.int .i64 (m : Int)) := ((g3.drew.below hH.below g3.lt).cell 0).trans rfl; go_simp; first | done | rfl
        refine Flow.pass_step (Reg.eqs (.int .i64 (c : Int))) (fun _ _ => Flow.kept_eqs _ _) (Flow.met_none rfl) (fun a W hH => ?_) ?_
        · have e0 := Flow.see_new 19 1 hH.sees (by kernel_rfl) (by kernel_rfl) rfl rfl
          have e1 := Flow.see_new 20 2 hH.sees (by kernel_rfl) (by kernel_rfl) rfl rfl
          refine Reg.wp_call rfl Tryz.func12 rfl (by kernel_rfl) (by simp [Act.eval, e0, e1]) (hof W) ?_
          rintro e w' ⟨rfl, rfl⟩
          exact ⟨_, rfl, _, rfl, Ext.refl _, rfl⟩
        refine Flow.pass_val (.int .u64 (v : Int)) (Flow.met_none rfl) (fun a W hH => ?_) ?_
        · have e0 := Flow.see_new 18 0 hH.sees (by kernel_rfl) (by kernel_rfl) rfl rfl
          have e1 := Flow.see_new 21 3 hH.sees (by kernel_rfl) (by kernel_rfl) rfl rfl
          go_simp; first | done | (rw [HV.out]; push_cast; rfl)
        refine Flow.pass_val (.int .u64 ((v % 2 : Nat) : Int)) (Flow.met_none rfl) (fun a W hH => ?_) ?_
        · have e0 := Flow.see_new 22 4 hH.sees (by kernel_rfl) (by kernel_rfl) rfl rfl
          go_simp; first | done | rfl | rw [hvand] | (simp [hvand]; done)
        refine Flow.pass_val (.bool false) (Flow.met_none rfl) (fun a W hH => ?_) ?_
        · have e0 := Flow.see_new 23 5 hH.sees (by kernel_rfl) (by kernel_rfl) rfl rfl
          go_simp; first | done | rfl | (simp [hbit]; done)
        refine Flow.pass_copy 24 6 (Flow.met_none rfl) (.inl rfl) (by kernel_rfl) (by kernel_rfl) rfl rfl (fun _ _ => Flow.kept_eqs _ _) ?_
        refine Flow.pass_skip (fun a W hH => Flow.not_wanted 7 true 25 hH rfl rfl (by kernel_rfl) (by kernel_rfl) rfl rfl) ?_
        refine Flow.pass_skip (fun a W hH => Flow.not_wanted 7 true 25 hH rfl rfl (by kernel_rfl) (by kernel_rfl) rfl rfl) ?_
        refine Flow.pass_skip (fun a W hH => Flow.not_wanted 7 true 25 hH rfl rfl (by kernel_rfl) (by kernel_rfl) rfl rfl) ?_
        refine Flow.pass_skip (fun a W hH => Flow.not_wanted 7 true 25 hH rfl rfl (by kernel_rfl) (by kernel_rfl) rfl rfl) ?_
        refine Flow.pass_skip (fun a W hH => Flow.not_wanted 7 true 25 hH rfl rfl (by kernel_rfl) (by kernel_rfl) rfl rfl) ?_
        refine Flow.pass_val (.bool false) (Flow.met_none rfl) (fun a W hH => ?_) ?_
        · have e0 := Flow.see_new 25 7 hH.sees (by kernel_rfl) (by kernel_rfl) rfl rfl
          have e1 := Flow.see_new 30 12 hH.sees (by kernel_rfl) (by kernel_rfl) rfl rfl
          go_simp; first | done | rfl
        refine Flow.pass_end [none, none, none, none, none, none, none, none, none, none, none, none, none, none, none, none, none, none, some 18, some 19, some 20, some 21, some 22, some 23, some 24, some 25, some 26, some 27, some 28, some 29, some 30, some 31, none] (by kernel_rfl) ?_
        intro f gg w9 hB hfa hT hfg
        have h31 : f 31 = _ := (hfg 31 13 (by kernel_rfl)).trans (hT 13 _ (by kernel_rfl) rfl)
        refine ⟨rfl, ?_⟩
        have hE : Ext wr w9 := ⟨hB.os, hB.tape, hB.output, hB.size, fun k hk => hB.block k hk⟩
        have hJ9 : Jv (hits m mask k) w9 := hAb _ _ _ none hJs ⟨hE.os, hE.tape, hE.output, hE.size, fun k hk _ => hE.block k hk⟩ (fun r e => by cases e)
        have hK9 : KBs Z n0 W w9 := ⟨fun b hb => by
          have h1 := hK.1 b hb
          rcases Nat.lt_or_ge b wr.heap.size with h2 | h2
          · exact (hE.block b h2).trans h1
          · exact absurd (hZl b hb) (by have := hK.2.size; omega), hK.2.trans (hE.mono (Nat.le_trans hn0 hK.2.size))⟩
        simp only [Reg.sel, h31]
        clear hT hfg hfa hJs g1 g2 g3 cb
        gi_wp2
        go_roundw
        case rel => exact ⟨k + 1, by omega, by simp, by rw [Hh.out]; exact hJ9, hK9⟩
        case measure => simp [intOf]; omega
    · obtain rfl : k = 8192 := by omega
      gi_wp2
      go_end0
      exact ⟨⟨_, rfl⟩, .inl ⟨_, rfl, hJs⟩⟩
end Go.Proofs.YtpellkblaeeopaaGreatDoor
/-
  Walk: the iterator span.good: the good ones of spans, as ends.
-/
namespace Go.Proofs.YtpellkblaeeopaaGreatDoor
open Go.RowKit Go.Shelf

attribute [local go_sem] Oper.semAt_some

def endOf (s : Sp) : En := (s.base, s.last)
def goodE (l : List Sp) : List En := (l.filter Sp.good).map endOf
theorem goodE_snoc (l : List Sp) (s : Sp) : goodE (l ++ [s]) = goodE l ++ (if s.good then [endOf s] else []) := by
  unfold goodE
  rw [List.filter_append, List.map_append]
  congr 1
  cases h : s.good <;> simp [h]
theorem goodE_length (l : List Sp) : (goodE l).length ≤ l.length := by
  unfold goodE; rw [List.length_map]; exact List.length_filter_le _ _
abbrev enEncs (x : En) : Array Value := #[.agg (enC x).toArray]
theorem run_ends (a b : Nat) (w : World) : (Instr.build 191 #[(0, .int .u64 (a : Int)), (1, .int .u64 (b : Int))]).run Tryz.prog w = .ok (.agg (enC (a, b)).toArray) w := by
  have := run_build_rows (P := Tryz.prog) w (t := 191) (z := #[.int .u64 0, .int .u64 0]) #[(0, .int .u64 (a : Int)), (1, .int .u64 (b : Int))] [.int .u64 (a : Int), .int .u64 (b : Int)] [(0, 1), (1, 1)]
    Tryz.underlying191 (by kernel_rfl) (by kernel_rfl) rfl (by simp [Rows1, Value.cells]) (by simp [flat, Value.cells])
  simpa [flat, Value.cells, enC] using this

theorem reg_loadPG {P : Program} {o : Oper} {a : Act} {w : World} (ty : TypeId) (t : Tmp) (ho : o.op = .load ty (.tmp t)) {b : Nat} {te : TypeId} {cs : Array Value} (he : a.tmps[t]?.getD undef = .pointer (some ⟨b, 0, none⟩))
    (h : Blk w b te cs) {d : TypeDesc} (hu : P.underlying ty = some d) (hd : d.isRow = true) (hi : (P.info? ty).map (·.size) = some cs.size) :
    (execOp a.eval o).run P w = .ok (.value (.agg cs)) w := by
  have := run_loadAt_mid (P := P) w b 0 ty cs.toList d (fun j v hv => by rw [Nat.zero_add, h.cell]; simpa using hv) hu hd (by simpa using hi)
  simp [execOp, ho, Act.eval, he, this]
set_option maxRecDepth 100000 in
set_option maxHeartbeats 400000 in
theorem sgood_in (F : Fence) (n' : Nat) (h8 : F.fn 87) (hro : F.round = none) (A : Option Addr) (n c : Nat) (w : World) :
    CallsIn F n' Tryz.prog 87 #[.slice A n c] w fun e w' => e = .returned (.func (.func 105) #[] #[.pointer (some ⟨w.heap.size, 0, none⟩)]) ∧ w' = w.alloc (.cells #[.slice A n c] 34) := by
  refine callsIn_of_wp Tryz.func87 rfl h8 ?_ hro
  simp only [Tryz.ntmps87, List.size_toArray, List.length_cons, List.length_nil, Nat.reduceAdd, Nat.reduceSub, Array.replicate_succ, Array.replicate_zero, List.push_toArray, List.append_toArray, List.nil_append, List.cons_append]
  gi_wp2
  go_ret
  exact ⟨rfl, rfl⟩
set_option maxRecDepth 100000 in
set_option maxHeartbeats 4000000 in
theorem sgood1_in (n' ly bb n0 : Nat) (hn' : 1 ≤ n') (A : Option Addr) (n c : Nat) (l : List Sp) (hok : ∀ s ∈ l, s.ok) (hn1 : n ≤ 1000000) (Z : Nat → Prop) (_hZ1 : Z bb) (Jv Jx : List En → World → Prop) (W : World) (hAb : AbidesFrom W.heap.size Jv)
    (hY : ∀ pre x W, Jv pre W → pre.length < 1000001 → YieldAt Fence.wide (n' - 1) Tryz.prog ly (enEncs x) W fun e W' =>
      (e = .returned (.bool true) ∧ Jv (pre ++ [x]) W' ∧ KBs Z n0 W W') ∨ (e = .returned (.bool false) ∧ Jx (pre ++ [x]) W'))
    (hn0 : n0 ≤ W.heap.size) (hZl : ∀ b, Z b → b < W.heap.size) (hB1 : Blk W bb 34 #[.slice A n c]) (hR : Rd W n0 2 A n (scells l)) (h0 : Jv [] W) :
    CallsIn Fence.wide n' Tryz.prog 105 #[.func (.yield ly) #[] #[], .pointer (some ⟨bb, 0, none⟩)] W fun e W' => (∃ v, e = .returned v) ∧
      ((∃ ys, ys = goodE l ∧ Jv ys W') ∨ (∃ pre, pre <+: goodE l ∧ Jx pre W')) := by
  have hl : n = l.length := by have := hR.len; rw [scells_length] at this; omega
  have HL := Lib.hid hl
  have HOK := Lib.hid hok
  have cs : W.cell? ⟨bb, 0, none⟩ = some (.slice A n c) := (hB1.cell 0).trans rfl
  clear hl hok
  refine callsIn_of_wp Tryz.func105 rfl trivial ?_ rfl
  simp only [Tryz.ntmps105, List.size_toArray, List.length_cons, List.length_nil, Nat.reduceAdd, Nat.reduceSub, Array.replicate_succ, Array.replicate_zero, List.push_toArray, List.append_toArray, List.nil_append, List.cons_append]
  gi_wp2
  gi_loopw [7] (fun i wr => ∃ k : Nat, k ≤ n ∧ i = .int .i64 (k : Int) ∧ Jv (goodE (l.take k)) wr ∧ KBs Z n0 W wr) (fun i _ => n - (intOf i).toNat)
  case atStart => exact ⟨0, Nat.zero_le _, rfl, h0, KBs.refl _ _ _⟩
  case round =>
    obtain ⟨k, hk, rfl, hJs, hK⟩ := hrel
    by_cases hlt : k < n
    · obtain ⟨s, hs⟩ : ∃ s, l[k]? = some s := ⟨_, List.getElem?_eq_getElem (by rw [← HL.out]; exact hlt)⟩
      have oks := HOK.out s (List.mem_of_getElem? hs)
      obtain ⟨ba, bo, rfl, hba, _⟩ := hR.range (by omega)
      have hrng := rd_span (hR.below hK.2) k s hs
      have r0 : wr.cell? ⟨ba, bo + k * 2, none⟩ = some (.int .u64 (s.base : Int)) := hrng 0 _ rfl
      have r1 : wr.cell? ⟨ba, bo + k * 2 + 1, none⟩ = some (.int .u64 (s.size : Int)) := hrng 1 _ rfl
      have htk : goodE (l.take (k + 1)) = goodE (l.take k) ++ (if s.good then [endOf s] else []) := by
        rw [List.take_add_one, hs, ← goodE_snoc]; rfl
      have HTK := Lib.hid htk
      have hpre : goodE (l.take (k + 1)) <+: goodE l := by
        have := (List.take_append_drop (k + 1) l)
        conv => rhs; rw [← this]
        unfold goodE
        rw [List.filter_append, List.map_append]
        exact List.prefix_append _ _
      have HPRE := Lib.hid hpre
      have hlk := goodE_length (l.take k)
      rw [List.length_take] at hlk
      clear hs hrng htk hpre cs
      gi_wp2
      have g1 := Blk.new wr 25 s.cells
      have E1 : Ext wr (wr.alloc (.cells s.cells 25)) := (Ext.refl wr).alloc _
      obtain ⟨w1, hw1⟩ : ∃ w1, w1 = wr.alloc (.cells s.cells 25) := ⟨_, rfl⟩
      have hw1' : w1 = wr.alloc (.cells #[.int .u64 (s.base : Int), .int .u64 (s.size : Int)] 25) := hw1
      rw [← hw1] at g1 E1
      rw [← hw1']
      obtain ⟨G, hG⟩ : ∃ G, G = s.good := ⟨_, rfl⟩
      have HG := Lib.hid hG.symm
      clear hw1 hw1' r0 r1 hG
      have hfin : ∀ w9, Ext wr w9 → Jv (goodE (l.take k)) w9 ∧ KBs Z n0 W w9 := fun w9 hE => ⟨hAb _ _ _ none hJs ⟨hE.os, hE.tape, hE.output, hE.size, fun k hk _ => hE.block k hk⟩ (fun r e => by cases e), fun b hb => by
          have h1 := hK.1 b hb
          rcases Nat.lt_or_ge b wr.heap.size with h2 | h2
          · exact (hE.block b h2).trans h1
          · exact absurd (hZl b hb) (by have := hK.2.size; omega), hK.2.trans (hE.mono (Nat.le_trans hn0 hK.2.size))⟩
      cases G with
      | true =>
        have HT : Hid (goodE (l.take (k + 1)) = goodE (l.take k) ++ [endOf s]) := Lib.hid (by rw [HTK.out, HG.out]; rfl)
        refine Reg.wpIn_region_tail Plain.wide (by kernel_rfl) 9 [] (by kernel_rfl) (by kernel_rfl) (by kernel_rfl) (by kernel_rfl) (by kernel_rfl) ?_
        refine Reg.pass_val (.agg s.cells) (Reg.met_none rfl) (fun a W hE hS => ?_) ?_
        · have e0 := Reg.see_old 4 hS (by kernel_rfl) (by kernel_rfl) rfl
          exact reg_loadPG 25 _ rfl e0 (g1.drew.ext hE) Tryz.underlying25 rfl infSpan
        refine Reg.pass_step (Reg.eqs (.bool true)) (Reg.stable_eqs _) (Reg.met_none rfl) (fun a W hE hS => ?_) ?_
        · have e0 := Reg.see_new 11 0 hS (by kernel_rfl) (by kernel_rfl) rfl rfl
          refine Reg.wp_call rfl Tryz.func20 rfl (by kernel_rfl) (by simp [Act.eval, e0]) (good_any s oks W) ?_
          rintro e w' ⟨rfl, hB⟩
          rw [HG.out]
          exact ⟨_, rfl, _, rfl, hB, rfl⟩
        refine Reg.pass_copy 12 1 (Reg.met_none rfl) (.inl rfl) (by kernel_rfl) (by kernel_rfl) rfl rfl (Reg.stable_eqs _) ?_
        refine Reg.pass_old (X := .func (.yield ly) #[] #[]) 0 (Reg.met_some 2 true 13 rfl rfl (by kernel_rfl) (by kernel_rfl) rfl rfl) (.inl rfl) (by kernel_rfl) (by kernel_rfl) rfl ?_
        refine Reg.pass_val (.pointer (some ⟨wr.heap.size, 0, none⟩)) (Reg.met_some 2 true 13 rfl rfl (by kernel_rfl) (by kernel_rfl) rfl rfl) (fun a W hE hS => ?_) ?_
        · have e0 := Reg.see_old 4 hS (by kernel_rfl) (by kernel_rfl) rfl
          go_simp; first | done | rfl
        refine Reg.pass_val (.int .u64 (s.base : Int)) (Reg.met_some 2 true 13 rfl rfl (by kernel_rfl) (by kernel_rfl) rfl rfl) (fun a W hE hS => ?_) ?_
        · have e0 := Reg.see_new 15 4 hS (by kernel_rfl) (by kernel_rfl) rfl rfl
          have cc : World.cell? W ⟨wr.heap.size, 0, none⟩ = some (.int .u64 (s.base : Int)) := ((g1.drew.ext hE).cell 0).trans rfl; go_simp; first | done | rfl
        refine Reg.pass_val (.agg s.cells) (Reg.met_some 2 true 13 rfl rfl (by kernel_rfl) (by kernel_rfl) rfl rfl) (fun a W hE hS => ?_) ?_
        · have e0 := Reg.see_old 4 hS (by kernel_rfl) (by kernel_rfl) rfl
          exact reg_loadPG 25 _ rfl e0 (g1.drew.ext hE) Tryz.underlying25 rfl infSpan
        refine Reg.pass_step (Reg.eqs (.int .u64 (s.last : Int))) (Reg.stable_eqs _) (Reg.met_some 2 true 13 rfl rfl (by kernel_rfl) (by kernel_rfl) rfl rfl) (fun a W hE hS => ?_) ?_
        · have e0 := Reg.see_new 17 6 hS (by kernel_rfl) (by kernel_rfl) rfl rfl
          refine Reg.wp_call rfl Tryz.func17 rfl (by kernel_rfl) (by simp [Act.eval, e0]) (last_any s oks W) ?_
          rintro e w' ⟨rfl, hB⟩
          exact ⟨_, rfl, _, rfl, hB, rfl⟩
        refine Reg.pass_val (.agg (enC (endOf s)).toArray) (Reg.met_some 2 true 13 rfl rfl (by kernel_rfl) (by kernel_rfl) rfl rfl) (fun a W hE hS => ?_) ?_
        · have e0 := Reg.see_new 16 5 hS (by kernel_rfl) (by kernel_rfl) rfl rfl
          have e1 := Reg.see_new 18 7 hS (by kernel_rfl) (by kernel_rfl) rfl rfl
          exact Flow.reg_build _ rfl (by simp [Act.eval, e0, e1]) (run_ends s.base s.last W)
        refine ⟨(fun i hi => by cases hi), ?_⟩
        refine Reg.tail_end [none, none, none, none, none, none, none, none, none, none, none, some 11, some 12, some 13, some 14, some 15, some 16, some 17, some 18, some 19, none, none, none, none] (by kernel_rfl) ?_
        intro ff w9 hE hf hfr
        have h11 : ff 11 = _ := hf 11 0 _ (by kernel_rfl) (by decide) rfl
        have h12 : ff 12 = _ := hf 12 1 _ (by kernel_rfl) (by decide) rfl
        have h13 : ff 13 = _ := hf 13 2 _ (by kernel_rfl) (by decide) rfl
        have h14 : ff 14 = _ := hf 14 3 _ (by kernel_rfl) (by decide) rfl
        have h15 : ff 15 = _ := hf 15 4 _ (by kernel_rfl) (by decide) rfl
        have h16 : ff 16 = _ := hf 16 5 _ (by kernel_rfl) (by decide) rfl
        have h17 : ff 17 = _ := hf 17 6 _ (by kernel_rfl) (by decide) rfl
        have h18 : ff 18 = _ := hf 18 7 _ (by kernel_rfl) (by decide) rfl
        have h19 : ff 19 = _ := hf 19 8 _ (by kernel_rfl) (by decide) rfl
        clear hf hfr 
        obtain ⟨hJ9, hK9⟩ := hfin w9 (E1.trans ((Ext.refl w1).drew.trans hE))
        have hyy := hY _ (endOf s) w9 hJ9 (by omega)
        obtain ⟨fn, tmps, assign, body, hy, hR3⟩ := hyy
        clear hE hJs g1 E1 hfin
        simp only [Reg.sel, h11, h12, h13, h14, h15, h16, h17, h18, h19, List.drop_succ_cons, List.drop_zero]
        gi_wp2
        refine hR3.mono ?_
        rintro e W3 (⟨rfl, hJ3, hk3⟩ | ⟨rfl, hJx3⟩)
        · gi_wp2
          go_roundw
          case rel => exact ⟨k + 1, by omega, by simp, by rw [HT.out]; exact hJ3, hK9.trans hk3⟩
          case measure => simp [intOf]; omega
        · gi_wp2
          refine bodyPost_ret (results_none rfl _ _ _) rfl ?_
          exact ⟨⟨_, rfl⟩, .inr ⟨_, by rw [← HT.out]; exact HPRE.out, hJx3⟩⟩
      | false =>
        have HT : Hid (goodE (l.take (k + 1)) = goodE (l.take k)) := Lib.hid (by rw [HTK.out, HG.out]; simp)
        refine Flow.wpIn_region_flow Plain.wide (by kernel_rfl) (w1.heap.size) [] [] (by kernel_rfl) (by kernel_rfl) (Nat.le_refl _) (fun _ h => by cases h) Flow.facts_nil ?_
        refine Flow.pass_val (.agg s.cells) (Flow.met_none rfl) (fun a W hH => ?_) ?_
        · have e0 := Flow.see_old 4 hH.sees (by kernel_rfl) (by kernel_rfl) rfl
          exact reg_loadPG 25 _ rfl e0 (g1.drew.below hH.below g1.lt) Tryz.underlying25 rfl infSpan
        refine Flow.pass_step (Reg.eqs (.bool false)) (fun _ _ => Flow.kept_eqs _ _) (Flow.met_none rfl) (fun a W hH => ?_) ?_
        · have e0 := Flow.see_new 11 0 hH.sees (by kernel_rfl) (by kernel_rfl) rfl rfl
          refine Reg.wp_call rfl Tryz.func20 rfl (by kernel_rfl) (by simp [Act.eval, e0]) (good_any s oks W) ?_
          rintro e w' ⟨rfl, hB⟩
          rw [HG.out]
          exact ⟨_, rfl, _, rfl, hB, rfl⟩
        refine Flow.pass_copy 12 1 (Flow.met_none rfl) (.inl rfl) (by kernel_rfl) (by kernel_rfl) rfl rfl (fun _ _ => Flow.kept_eqs _ _) ?_
        refine Flow.pass_skip (fun a W hH => Flow.not_wanted 2 true 13 hH rfl rfl (by kernel_rfl) (by kernel_rfl) rfl rfl) ?_
        refine Flow.pass_skip (fun a W hH => Flow.not_wanted 2 true 13 hH rfl rfl (by kernel_rfl) (by kernel_rfl) rfl rfl) ?_
        refine Flow.pass_skip (fun a W hH => Flow.not_wanted 2 true 13 hH rfl rfl (by kernel_rfl) (by kernel_rfl) rfl rfl) ?_
        refine Flow.pass_skip (fun a W hH => Flow.not_wanted 2 true 13 hH rfl rfl (by kernel_rfl) (by kernel_rfl) rfl rfl) ?_
        refine Flow.pass_skip (fun a W hH => Flow.not_wanted 2 true 13 hH rfl rfl (by kernel_rfl) (by kernel_rfl) rfl rfl) ?_
        refine Flow.pass_skip (fun a W hH => Flow.not_wanted 2 true 13 hH rfl rfl (by kernel_rfl) (by kernel_rfl) rfl rfl) ?_
        refine Flow.pass_skip (fun a W hH => Flow.not_wanted 2 true 13 hH rfl rfl (by kernel_rfl) (by kernel_rfl) rfl rfl) ?_
        refine Flow.pass_skip (fun a W hH => Flow.not_wanted 2 true 13 hH rfl rfl (by kernel_rfl) (by kernel_rfl) rfl rfl) ?_
        refine Flow.pass_val (.bool false) (Flow.met_none rfl) (fun a W hH => ?_) ?_
        · have e0 := Flow.see_new 13 2 hH.sees (by kernel_rfl) (by kernel_rfl) rfl rfl
          have e1 := Flow.see_new 21 10 hH.sees (by kernel_rfl) (by kernel_rfl) rfl rfl
          go_simp; first | done | rfl
        refine Flow.pass_end [none, none, none, none, none, none, none, none, none, none, none, some 11, some 12, some 13, some 14, some 15, some 16, some 17, some 18, some 19, some 20, some 21, some 22, none] (by kernel_rfl) ?_
        intro f gg w9 hB hfa hT hfg
        have h22 : f 22 = _ := (hfg 22 11 (by kernel_rfl)).trans (hT 11 _ (by kernel_rfl) rfl)
        refine ⟨rfl, ?_⟩
        obtain ⟨hJ9, hK9⟩ := hfin w9 (E1.trans ((Ext.refl w1).drew.trans hB))
        simp only [Reg.sel, h22]
        clear hT hfg hfa hJs g1 E1 hfin
        gi_wp2
        go_roundw
        case rel => exact ⟨k + 1, by omega, by simp, by rw [HT.out]; exact hJ9, hK9⟩
        case measure => simp [intOf]; omega
    · obtain rfl : k = n := by omega
      have hfin : goodE (l.take k) = goodE l := by rw [List.take_of_length_le (by rw [HL.out]; exact Nat.le_refl _)]
      rw [hfin] at hJs
      gi_wp2
      go_end0
      exact ⟨⟨_, rfl⟩, .inl ⟨_, rfl, hJs⟩⟩
end Go.Proofs.YtpellkblaeeopaaGreatDoor
/-
  The laying of the kit's contract of slices.SortFunc at the ends of stretches, in plain words.
-/
namespace Go.Proofs.YtpellkblaeeopaaGreatDoor
open Go.RowKit Go.Shelf

def renE : Ren := ⟨fun x => match x with
  | 6 => 88
  | 14 => 106
  | 15 => 107
  | 20 => 120
  | 21 => 121
  | 22 => 122
  | 23 => 123
  | 24 => 124
  | 25 => 125
  | 26 => 126
  | 27 => 127
  | 28 => 128
  | 29 => 129
  | 46 => 133
  | 47 => 134
  | 48 => 135
  | 49 => 136
  | 50 => 137
  | 57 => 140
  | _ => 0, fun x => match x with
  | 0 => 0
  | 3 => 3
  | 4 => 4
  | 5 => 5
  | 9 => 9
  | 22 => 147
  | 24 => 191
  | 25 => 198
  | 39 => 46
  | 45 => 236
  | 46 => 237
  | 50 => 241
  | 53 => 51
  | 55 => 22
  | 66 => 250
  | 70 => 254
  | 76 => 257
  | 77 => 258
  | _ => 0, fun x => x⟩
set_option maxRecDepth 100000 in
theorem sortE_lays : SlLaysF0.n6 Tryz.prog renE where
  mixed := by kernel_rfl
  f6 := ⟨Tryz.f88.name, by kernel_rfl, by kernel_rfl⟩
  f14 := ⟨Tryz.f106.name, by kernel_rfl, by kernel_rfl⟩
  f15 := by kernel_rfl
  f20 := ⟨Tryz.f120.name, by kernel_rfl, by kernel_rfl⟩
  f21 := ⟨Tryz.f121.name, by kernel_rfl, by kernel_rfl⟩
  f22 := ⟨Tryz.f122.name, by kernel_rfl, by kernel_rfl⟩
  f23 := ⟨Tryz.f123.name, by kernel_rfl, by kernel_rfl⟩
  f24 := ⟨Tryz.f124.name, by kernel_rfl, by kernel_rfl⟩
  f25 := ⟨Tryz.f125.name, by kernel_rfl, by kernel_rfl⟩
  f26 := ⟨Tryz.f126.name, by kernel_rfl, by kernel_rfl⟩
  f27 := ⟨Tryz.f127.name, by kernel_rfl, by kernel_rfl⟩
  f28 := by kernel_rfl
  f29 := by kernel_rfl
  f46 := ⟨Tryz.f133.name, by kernel_rfl, by kernel_rfl⟩
  f47 := by kernel_rfl
  f48 := by kernel_rfl
  f49 := ⟨Tryz.f136.name, by kernel_rfl, by kernel_rfl⟩
  f50 := ⟨Tryz.f137.name, by kernel_rfl, by kernel_rfl⟩
  f57 := ⟨Tryz.f140.name, by kernel_rfl, by kernel_rfl⟩
  t0 := by kernel_rfl
  a0 := fun w => by kernel_rfl
  z0 := fun w => by kernel_rfl
  v0 := fun w => by kernel_rfl
  t3 := by kernel_rfl
  a3 := fun w => by kernel_rfl
  z3 := fun w => by kernel_rfl
  v3 := fun w => by kernel_rfl
  t4 := by kernel_rfl
  a4 := fun w => by kernel_rfl
  z4 := fun w => by kernel_rfl
  v4 := fun w => by kernel_rfl
  t5 := by kernel_rfl
  a5 := fun w => by kernel_rfl
  z5 := fun w => by kernel_rfl
  v5 := fun w => by kernel_rfl
  t9 := by kernel_rfl
  a9 := fun w => by kernel_rfl
  z9 := fun w => by kernel_rfl
  v9 := fun w => by kernel_rfl
  t22 := by kernel_rfl
  a22 := fun w => by kernel_rfl
  z22 := fun w => by kernel_rfl
  v22 := fun w => by kernel_rfl
  t25 := by kernel_rfl
  a25 := fun w => by kernel_rfl
  z25 := fun w => by kernel_rfl
  v25 := fun w => by kernel_rfl
  t39 := by kernel_rfl
  a39 := fun w => by kernel_rfl
  z39 := fun w => by kernel_rfl
  v39 := fun w => by kernel_rfl
  t45 := by kernel_rfl
  a45 := fun w => by kernel_rfl
  z45 := fun w => by kernel_rfl
  v45 := fun w => by kernel_rfl
  t46 := by kernel_rfl
  a46 := fun w => by kernel_rfl
  z46 := fun w => by kernel_rfl
  v46 := fun w => by kernel_rfl
  t50 := by kernel_rfl
  a50 := fun w => by kernel_rfl
  z50 := fun w => by kernel_rfl
  v50 := fun w => by kernel_rfl
  t53 := by kernel_rfl
  a53 := fun w => by kernel_rfl
  z53 := fun w => by kernel_rfl
  v53 := fun w => by kernel_rfl
  t55 := by kernel_rfl
  a55 := fun w => by kernel_rfl
  z55 := fun w => by kernel_rfl
  v55 := fun w => by kernel_rfl
  t66 := by kernel_rfl
  a66 := fun w => by kernel_rfl
  z66 := fun w => by kernel_rfl
  v66 := fun w => by kernel_rfl
  t70 := by kernel_rfl
  a70 := fun w => by kernel_rfl
  z70 := fun w => by kernel_rfl
  v70 := fun w => by kernel_rfl
  t76 := by kernel_rfl
  a76 := fun w => by kernel_rfl
  z76 := fun w => by kernel_rfl
  v76 := fun w => by kernel_rfl
  t77 := by kernel_rfl
  a77 := fun w => by kernel_rfl
  z77 := fun w => by kernel_rfl
  v77 := fun w => by kernel_rfl
end Go.Proofs.YtpellkblaeeopaaGreatDoor
/-
  slices.SortFunc over ends, on a row of the call's own.
-/
namespace Go.Proofs.YtpellkblaeeopaaGreatDoor
open Go.RowKit Go.Shelf Go.Sort

def ecells (l : List En) : List Value := l.flatMap enC
theorem ecells_length (l : List En) : (ecells l).length = l.length * 2 := by
  induction l with
  | nil => rfl
  | cons s l ih => simp only [ecells, List.flatMap_cons, List.length_append] at *; rw [ih]; simp [enC]; omega
theorem ecells_append (a b : List En) : ecells (a ++ b) = ecells a ++ ecells b := by simp [ecells]
theorem ecells_get : ∀ (l : List En) (j : Nat), j < l.length * 2 → (ecells l)[j]? = some ((enC l.toArray[j / 2]!)[j % 2]!)
  | [], j, h => by simp at h
  | x :: l, 0, _ => by simp [ecells, enC]
  | x :: l, 1, _ => by simp [ecells, enC]
  | x :: l, j + 2, h => by
    have ih := ecells_get l j (by simp at h; omega)
    have e1 : (ecells (x :: l))[j + 2]? = (ecells l)[j]? := by simp [ecells, enC]
    rw [e1, ih, show (j + 2) / 2 = j / 2 + 1 by omega, show (j + 2) % 2 = j % 2 by omega]
    congr 3
    have hj : j / 2 < l.length := by simp at h; omega
    simp [hj]
theorem flat_ecells (d : Array En) : (flatK enC 2 d).toList = ecells d.toList := by
  apply List.ext_getElem?
  intro j
  by_cases h : j < d.size * 2
  · rw [ecells_get _ _ (by simpa using h)]
    have h2 := get_flatK enC 2 d j h
    rw [getElem!_pos _ j (by simpa using h)] at h2
    rw [Array.getElem?_toList, Array.getElem?_eq_getElem (by simpa using h), h2]
  · rw [List.getElem?_eq_none (by simpa using h), List.getElem?_eq_none (by rw [ecells_length]; simpa using h)]
theorem ends_lt (x y : En) : ltOf endsV x y = decide (x.1 < y.1 ∨ (x.1 = y.1 ∧ x.2 < y.2)) := by
  unfold ltOf endsV cmpV
  by_cases h1 : x.1 < y.1
  · simp [h1]
  · by_cases h2 : y.1 < x.1
    · have : ¬ x.1 = y.1 := by omega
      simp [h1, h2, this]
    · have e : x.1 = y.1 := by omega
      by_cases h3 : x.2 < y.2
      · simp [e, h3]
      · by_cases h4 : y.2 < x.2 <;> simp [e, h3, h4]
theorem ends_swo : SWO (ltOf endsV) where
  irrefl x := by rw [ends_lt]; simp
  trans x y z h1 h2 := by rw [ends_lt] at *; simp at *; omega
  ntrans x y z h1 h2 := by rw [ends_lt] at *; simp at *; omega
theorem ends_isAgg (w : World) : (isAgg 191).run Tryz.prog w = .ok true w := by kernel_rfl
theorem ends_size (w : World) : (Go.sizeOf 191).run Tryz.prog w = .ok 2 w := by kernel_rfl
theorem enC_one (x : En) : ∀ v ∈ enC x, v.oneCell' = true := by
  intro v hv; simp only [enC, List.mem_cons, List.not_mem_nil, or_false] at hv; rcases hv with rfl | rfl <;> rfl
/-- a row sorted -/
def SortedE (L L' : List En) : Prop := PermIn 0 L.length L.toArray L'.toArray ∧ SortedIn (ltOf endsV) 0 L.length L'.toArray ∧ L'.length = L.length

theorem sortW_row {w : World} {base g N c n : Nat} {L : List En} {d' : Array En} {os : Array Obj} (hown : w.ownsRow base 191 2 (.slice (some ⟨g, 0, none⟩) N c) N (ecells L)) (hd : d'.size = N) :
    (sortWorldK enC 2 w g 0 n d' os).ownsRow base 191 2 (.slice (some ⟨g, 0, none⟩) N c) N (ecells d'.toList) ∧ Chg (fun b => b = g) w (sortWorldK enC 2 w g 0 n d' os) := by
  rcases hown.2 with ⟨h, _⟩ | ⟨g', cap, cur, h1, h2, h3, h4, h5, h6, h7⟩
  · cases h
  · cases h1
    have hg : g < w.heap.size := (Array.getElem?_eq_some_iff.1 h3).1
    refine ⟨⟨by rw [ecells_length]; simp [hd], .inr ⟨g, c, putCells id 0 (flatK enC 2 d') cur, rfl, h2, ?_, h4, h5, by simp [putCells, h6], ?_⟩⟩, ⟨rfl, rfl, rfl, by simp [sortWorldK, grow, putRowK, putRow, mapBlock, Go.Sort.ahead], fun k hk hn => ?_⟩⟩
    · simp only [sortWorldK, grow, putRowK, putRow, mapBlock]
      have e : (Go.Sort.ahead w n).heap = w.heap := rfl
      rw [e, Array.getElem?_append_left (by simpa using hg), Array.getElem?_modify, if_pos rfl, h3]
      rfl
    · rw [← flat_ecells]
      apply List.ext_getElem?
      intro j
      by_cases hj : j < N * 2
      · rw [List.getElem?_take, if_pos hj, Array.getElem?_toList, Array.getElem?_toList]
        have hc : j < cur.size := by rw [h6]; have := Nat.mul_le_mul_right 2 h4; omega
        have hf : j < (flatK enC 2 d').size := by rw [size_flatK, hd]; exact hj
        rw [Array.getElem?_eq_getElem (by simpa [putCells] using hc), Array.getElem?_eq_getElem hf]
        simp only [putCells, Array.getElem_mapIdx, Nat.zero_le, Nat.zero_add, hf, and_self, if_true, id_eq, Nat.sub_zero]
        rw [getElem!_pos _ j hf]
      · rw [List.getElem?_eq_none (by rw [List.length_take]; omega), List.getElem?_eq_none (by simp [hd]; omega)]
    · simp only [sortWorldK, grow, putRowK, putRow, mapBlock]
      have e : (Go.Sort.ahead w n).heap = w.heap := rfl
      rw [e, Array.getElem?_append_left (by simpa using hk), Array.getElem?_modify, if_neg (fun e => hn e.symm)]
set_option maxRecDepth 100000 in
theorem sortEnds_any (base : Nat) (v : Value) (N : Nat) (hN : N ≤ 1000000) (L : List En) (w : World) (hown : w.ownsRow base 191 2 v N (ecells L)) :
    Calls Tryz.prog 88 #[v, .func (.func 89) #[] #[]] w fun e w' => e = .returned (.tuple #[]) ∧ ∃ L', SortedE L L' ∧ w'.ownsRow base 191 2 v N (ecells L') ∧ Chg (fun b => v.ownBlock = some b) w w' := by
  have hlen : L.length = N := by have := hown.1; rw [ecells_length] at this; omega
  rcases hown.2 with ⟨rfl, h0⟩ | ⟨g, cap, cur, rfl, h2, h3, h4, h5, h6, h7⟩
  · subst h0
    have := AnyF.slices_SortFunc_none sortE_lays none 0 (.func (.func 89) #[] #[]) w
    change Calls Tryz.prog 88 _ _ _ at this
    refine this.mono ?_
    rintro e w' ⟨rfl, rfl⟩
    have hL : L = [] := List.length_eq_zero_iff.1 hlen
    subst hL
    exact ⟨rfl, [], ⟨⟨rfl, fun _ _ => rfl, List.Perm.refl _⟩, fun i j _ _ h => by simp at h, rfl⟩, hown, Chg.refl _ _⟩
  · have hg : g < w.heap.size := (Array.getElem?_eq_some_iff.1 h3).1
    have hblk : Blk w g 191 cur := h3
    have hH : HoldsK enC 2 w g 0 L.toArray := by
      intro j hj
      have hj2 : j < N * 2 := by simpa [hlen] using hj
      refine ⟨?_, by rw [Nat.zero_add]; exact hblk.frozen j⟩
      rw [Nat.zero_add, hblk.cell, id_eq, getElem!_pos _ j hj]
      have h8 := congrArg (fun l : List Value => l[j]?) (flat_ecells L.toArray)
      simp only [Array.getElem?_toList] at h8
      rw [Array.getElem?_eq_getElem hj] at h8
      rw [h8, ← h7, List.getElem?_take, if_pos hj2, Array.getElem?_toList]
    have eg : ∀ args w, (callFunc 89 args).run Tryz.prog w = .ok (.enter 89 args) w := enters_of Tryz.func89 (by kernel_rfl) rfl
    have hcmp : CmpLays Tryz.prog 89 #[] enC 2 endsV g 0 L.toArray.size w := fun m os dk _ x y => by
      refine (endsCmp_any x y _).mono ?_
      rintro e w' ⟨h1, h2⟩
      exact ⟨h1, extD_grow h2⟩
    have hcon := AnyQ.slices_SortFunc sortE_lays 2 ends_isAgg ends_size enC (fun _ => rfl) enC_one endsV ends_swo 89 #[] g 0 cap L.toArray w eg hcmp hH hg (by simp [hlen]; omega)
    change Calls Tryz.prog 88 _ _ _ at hcon
    rw [show L.toArray.size = N by simp [hlen]] at hcon
    refine hcon.mono ?_
    rintro e w' ⟨rfl, d', n, os, hp, hs, rfl⟩
    have hd : d'.size = N := by have := hp.1; simpa [hlen] using this
    obtain ⟨q1, q2⟩ := sortW_row (n := n) (os := os) hown hd
    exact ⟨rfl, d'.toList, ⟨by rw [hlen]; simpa using hp, by rw [hlen]; simpa using hs, by simp [hd, hlen]⟩, q1, q2.mono fun b hb => by rw [hb]; rfl⟩
end Go.Proofs.YtpellkblaeeopaaGreatDoor
/-
  XFlow, further: a guard whose own operation was passed over.
-/
namespace Go.Proofs.YtpellkblaeeopaaGreatDoor
open Go.RowKit

namespace Flow
variable {ops : Array Oper} {a0 : Act} {w0 : World} {n0 : Nat} {fs : Fs} {Rs : List KdL} {o : Oper}
/-- a guard whose own operation was passed over -/
theorem not_wanted_undef (g : Nat) (b : Bool) (t : Tmp) {a : Act} {w : World} (hH : H ops a0 w0 n0 fs Rs o a w) (h : o.guard = some (g, b)) (hd : (ops[g]?).bind (·.dst) = some t) (hw : Reg.writer ops t = some g) (hl : (o.looksAt ops).elem t = true)
    (hg : decide (g < Rs.length) = true) (hT : Rs.reverse[g]? = some (up (Reg.eqs undef))) : Region.wanted o (yielded ops a.tmps) = false := by
  have h3 := see_new t g hH.sees hl hw hg hT
  cases hx : a.tmps[t]? with
  | none => simp [Region.wanted, h, yielded, hd, hx]
  | some v =>
    rw [hx] at h3
    simp at h3
    subst h3
    cases b <;> simp [Region.wanted, h, yielded, hd, hx, undef]
end Flow
end Go.Proofs.YtpellkblaeeopaaGreatDoor
