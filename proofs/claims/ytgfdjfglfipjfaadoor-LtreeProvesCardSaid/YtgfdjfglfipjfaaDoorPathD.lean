/-
  Walk: the law LtreeProves.
-/
import Derived.Test.YtgfdjfglfipjfaaDoorPathC
namespace Go.Proofs.YtgfdjfglfipjfaaDoor
open Go.RowKit Sha

namespace Flow
variable {ops : Array Oper} {a0 : Act} {w0 : World} {n0 : Nat} {fs : Fs} {Rs : List KdL} {o : Oper}
/-- a guard whose own operation was passed over -/
theorem not_wanted_undef (g : Nat) (b : Bool) (t : Tmp) {a : Act} {w : World} (hH : H ops a0 w0 n0 fs Rs o a w) (h : o.guard = some (g, b)) (hd : (ops[g]?).bind (·.dst) = some t) (hw : Reg.writer ops t = some g) (hl : (o.looksAt ops).elem t = true)
    (hg : decide (g < Rs.length) = true) (hT : Rs.reverse[g]? = some (up (Reg.eqs undef))) : Region.wanted o (yielded ops a.tmps) = false := by
  have h3 := see_new t g hH.sees hl hw hg hT
  cases hx : a.tmps[t]? with
  | none => simp [Region.wanted, h, yielded, hd, hx]
  | some v =>
    rw [hx] at h3
    simp at h3
    subst h3
    cases b <;> simp [Region.wanted, h, yielded, hd, hx, undef]
end Flow

theorem root_path (sd : Nd) (ns : List Nd) (idx : Nat) (h40 : ns.length ≤ 40) (ho : pathOk ns.length idx = true) : rootV sd (at_ ns idx) idx (pathN sd ns idx) = pathR sd ns idx := by
  unfold pathN pathR
  rw [if_pos ho, if_pos ho]
  unfold pathOk at ho
  rw [Bool.and_eq_true] at ho
  obtain ⟨k, hk, hp⟩ := lg_of ns.length (by omega) ho.1
  have hi : idx < 2 ^ k := by have := of_decide_eq_true ho.2; omega
  rw [hp, log2_pow k hk]
  unfold rootV
  rw [authN_length, if_neg (by omega), prove_path sd ns k idx hp hi k (Nat.le_refl _), Nat.div_eq_of_lt hi]

set_option maxRecDepth 100000 in
set_option maxHeartbeats 4000000 in
theorem ltreeProves_walk (w : World) (hT : Tabs w) (A : Option Addr) (n c : Nat) (ns : List (List UInt8)) (hn0 : n = ns.length) (hcc : n ≤ c) (hR : Rd w w.heap.size 32 A n (ncells ns)) (h32 : ∀ x ∈ ns, x.length = 32)
    (idx : Int) (wi : (Lit.int .u32 idx).wf = true) (sd : List UInt8) (hsd : sd.length = 32) :
    Calls Tryd.prog 7 #[.slice A n c, .int .u32 idx, .agg (bcells sd).toArray] w fun e w' => e = .returned (.bool true) ∧ Below w.heap.size w w' := by
  have hz := zeroNode
  obtain ⟨idx, hidx, rfl⟩ := u32_nat wi
  clear wi
  have hn := Lib.hid hn0
  have hn32 := Lib.hid h32
  have sdL := Lib.hid hsd
  have hs32 : Hid (zn.size = 32) := Lib.hid (by kernel_rfl)
  clear hn0 h32
  have hb_sd := Blk.new w 24 (bcells sd).toArray
  have B0 : Below w.heap.size w (w.alloc (.cells (bcells sd).toArray 24)) := (Below.refl _ _).alloc (Nat.le_refl _) _
  have hT0 := hT.alloc (.cells (bcells sd).toArray 24)
  clear hsd
  go_enter Tryd.func7, Tryd.ntmps7
  go_wp2_with fail
  generalize w.alloc (.cells (bcells sd).toArray 24) = W0 at *
  refine (awake07 W0 hT0).mono ?_
  rintro e W1 ⟨rfl, hB1⟩
  have hb_sd := hb_sd.below hB1 hb_sd.lt
  have hT1 := hT0.below hB1
  have B1 := B0.trans (hB1.mono B0.size)
  have hR1 := (hR.below B1).more B1.size
  clear B0 hB1 hT0 hR
  by_cases h40 : n ≤ 40
  · have h40' : ¬ (40 : Int) < (n : Int) := by omega
    go_wp2_with ((with_reducible refine at_load 24 ?_); refine wpList_runV rfl (reg_load 24 5 rfl rfl hb_sd Tryd.underlying24 rfl (by rw [List.size_toArray, bcells_length, sdL.out]; exact infNode)) ?_)
    refine (mpath_any sd sdL.out idx hidx A n c ns hn.out hn32.out h40 hcc W1 hR1 hT1).mono ?_
    obtain ⟨hall, hle, hRl⟩ := pathN_all sd ns idx hn32.out (by rw [← hn.out]; exact h40)
    obtain ⟨NS, hNS⟩ : ∃ NS, NS = pathN sd ns idx := ⟨_, rfl⟩
    obtain ⟨S, hS⟩ : ∃ S, S = pathR sd ns idx := ⟨_, rfl⟩
    obtain ⟨ok, hok⟩ : ∃ b, b = pathOk ns.length idx := ⟨_, rfl⟩
    have HPV : Hid (PathV = fun w sd ns idx e w' => ∃ A c, e = .returned (.tuple #[.slice A (pathN sd ns idx).length c, .agg (bcells (pathR sd ns idx)).toArray, .bool (pathOk ns.length idx)]) ∧ (pathN sd ns idx).length ≤ c ∧ Rd w' w'.heap.size 32 A (pathN sd ns idx).length (ncells (pathN sd ns idx)) ∧ Below w.heap.size w w') := Lib.hid rfl
    rw [← hNS] at hall hle
    rw [← hS] at hRl
    rintro e W2 ⟨A1, c1, rfl, hc1, hR2, hB2⟩
    rw [← hNS] at hc1 hR2 ⊢
    rw [← hS, ← hok]
    have HNS := Lib.hid hNS
    have HS := Lib.hid hS
    have Hok := Lib.hid hok
    have Hall := Lib.hid hall
    have HSl := Lib.hid hRl
    clear hNS hS hok hall hRl
    have hb2 := hb_sd.below hB2 hb_sd.lt
    have B2 := B1.trans (hB2.mono B1.size)
    have hR12 := (hR1.below hB2).more hB2.size
    clear hb_sd hT1 B1 hR1 hB2 h40'
    by_cases hob : ok = true
    · subst hob
      have hlt : idx < ns.length := by
        have := Hok.out
        unfold pathOk at this
        have h2 := this.symm
        rw [Bool.and_eq_true] at h2
        exact of_decide_eq_true h2.2
      obtain ⟨x, ex⟩ : ∃ x, x = at_ ns idx := ⟨_, rfl⟩
      have xL : Hid (x.length = 32) := Lib.hid (by rw [ex]; exact All32.at_ hn32.out hlt)
      have HS : Hid (S = rootV sd x idx NS) := Lib.hid (by rw [ex, HNS.out, HS.out]; exact (root_path sd ns idx (by rw [← hn.out]; exact h40) Hok.out.symm).symm)
      have HNS32 := Hall
      have SL := HSl
      obtain ⟨ab, ao, rfl, hab2, hrg2⟩ := hR12.range (by have := hn.out; omega)
      have hx2 := range_node hrg2 hn32.out idx hlt
      rw [← at_get _ _ hlt, ← ex] at hx2
      have hii : (idx : Int) < (n : Int) := by have := hn.out; omega
      have hwi : IntKind.u64.wrap (idx : Int) = (idx : Int) := by rw [IntKind.wrap_u64]; omega
      have hwn : IntKind.u64.wrap (n : Int) = (n : Int) := by rw [IntKind.wrap_u64]; omega
      have hT2 := hT.below B2
      clear ex hlt Hok hrg2 hT
      go_wp2_with ((with_reducible refine at_store 24 ?_); refine wpList_storeAll _ rfl 24 _ _ rfl W2.heap.size 24 zn (bcells S).toArray (Blk.new W2 24 zn) rfl rfl (by rw [List.size_toArray, bcells_length, HSl.out, hs32.out]) (by rw [List.size_toArray, bcells_length, HSl.out]; exact infNode) (fun v hv => bcells_one _ v (by simpa using hv)) ?_; intro W3 hb_S hg hs; have hB23 := grown_below ((Below.refl W2.heap.size W2).alloc (Nat.le_refl _) (.cells zn 24)) hg (by simp) (Nat.le_refl _); skip)
      have hb_sd := hb2.below hB23 hb2.lt
      have hRA := ((hR2.below hB23).more hB23.size).drew
      have hT1 := hT2.below hB23
      have B3 := B2.trans (hB23.mono B2.size)
      have hx : W3.drew.rangeAt ab (ao + idx * 32) (bcells x) := (hx2.later hB23 hab2 : W3.rangeAt ab (ao + idx * 32) (bcells x))
      have hab : ab < W3.drew.heap.size := Nat.lt_of_lt_of_le hab2 hB23.size
      clear hR12 hR2 hb2 hB23 B2 hx2 hab2 hT2 hc1
      obtain ⟨gA, hgA⟩ : ∃ g, g = W2.heap.size := ⟨_, rfl⟩
      rw [← hgA] at hb_S ⊢
      clear hgA
      refine Flow.wp_region_flow (W3.drew.heap.size) [] [] (by kernel_rfl) (by kernel_rfl) (Nat.le_refl _) (fun _ h => by cases h) Flow.facts_nil ?_
      refine Flow.pass_old (X := .bool true) 9 (Flow.met_none rfl) (.inl rfl) (by kernel_rfl) (by kernel_rfl) rfl ?_
      refine Flow.pass_val ((.bool false)) (Flow.met_none rfl) (fun a W hH => ?_) ?_
      · have e0 := Flow.see_new 23 0 hH.sees (by kernel_rfl) (by kernel_rfl) rfl rfl
        go_simp; first | done | rfl
      refine Flow.pass_val ((.bool false)) (Flow.met_none rfl) (fun a W hH => ?_) ?_
      · have e0 := Flow.see_new 24 1 hH.sees (by kernel_rfl) (by kernel_rfl) rfl rfl
        go_simp; first | done | rfl
      refine Flow.pass_old (X := .int .u32 (idx : Int)) 1 (Flow.met_some 2 false 25 rfl rfl (by kernel_rfl) (by kernel_rfl) rfl rfl) (.inl rfl) (by kernel_rfl) (by kernel_rfl) rfl ?_
      refine Flow.pass_val (.int .u64 (idx : Int)) (Flow.met_some 2 false 25 rfl rfl (by kernel_rfl) (by kernel_rfl) rfl rfl) (fun a W hH => ?_) ?_
      · have e0 := Flow.see_new 26 3 hH.sees (by kernel_rfl) (by kernel_rfl) rfl rfl
        go_simp; first | done | rfl | rw [hwi]
      refine Flow.pass_old (X := .slice (some ⟨ab, ao, none⟩) n c) 0 (Flow.met_some 2 false 25 rfl rfl (by kernel_rfl) (by kernel_rfl) rfl rfl) (.inl rfl) (by kernel_rfl) (by kernel_rfl) rfl ?_
      refine Flow.pass_val (.int .i64 (n : Nat)) (Flow.met_some 2 false 25 rfl rfl (by kernel_rfl) (by kernel_rfl) rfl rfl) (fun a W hH => ?_) ?_
      · have e0 := Flow.see_new 28 5 hH.sees (by kernel_rfl) (by kernel_rfl) rfl rfl
        go_simp; first | done | rfl
      refine Flow.pass_val (.int .u64 (n : Nat)) (Flow.met_some 2 false 25 rfl rfl (by kernel_rfl) (by kernel_rfl) rfl rfl) (fun a W hH => ?_) ?_
      · have e0 := Flow.see_new 29 6 hH.sees (by kernel_rfl) (by kernel_rfl) rfl rfl
        go_simp; first | done | rfl | rw [hwn]
      refine Flow.pass_val ((.bool true)) (Flow.met_some 2 false 25 rfl rfl (by kernel_rfl) (by kernel_rfl) rfl rfl) (fun a W hH => ?_) ?_
      · have e0 := Flow.see_new 27 4 hH.sees (by kernel_rfl) (by kernel_rfl) rfl rfl
        have e1 := Flow.see_new 30 7 hH.sees (by kernel_rfl) (by kernel_rfl) rfl rfl
        go_simp; first | done | rfl
      refine Flow.pass_val ((.bool true)) (Flow.met_some 2 false 25 rfl rfl (by kernel_rfl) (by kernel_rfl) rfl rfl) (fun a W hH => ?_) ?_
      · have e0 := Flow.see_new 31 8 hH.sees (by kernel_rfl) (by kernel_rfl) rfl rfl
        go_simp; first | done | rfl
      refine Flow.pass_old (X := .slice (some ⟨ab, ao, none⟩) n c) 0 (Flow.met_some 9 true 32 rfl rfl (by kernel_rfl) (by kernel_rfl) rfl rfl) (.inl rfl) (by kernel_rfl) (by kernel_rfl) rfl ?_
      refine Flow.pass_old (X := .int .u32 (idx : Int)) 1 (Flow.met_some 9 true 32 rfl rfl (by kernel_rfl) (by kernel_rfl) rfl rfl) (.inl rfl) (by kernel_rfl) (by kernel_rfl) rfl ?_
      refine Flow.pass_val (.pointer (some ⟨ab, ao + idx * 32, none⟩)) (Flow.met_some 9 true 32 rfl rfl (by kernel_rfl) (by kernel_rfl) rfl rfl) (fun a W hH => ?_) ?_
      · have e0 := Flow.see_new 33 10 hH.sees (by kernel_rfl) (by kernel_rfl) rfl rfl
        have e1 := Flow.see_new 34 11 hH.sees (by kernel_rfl) (by kernel_rfl) rfl rfl
        go_simp
      refine Flow.pass_val (.agg (bcells x).toArray) (Flow.met_some 9 true 32 rfl rfl (by kernel_rfl) (by kernel_rfl) rfl rfl) (fun a W hH => ?_) ?_
      · have e0 := Flow.see_new 35 12 hH.sees (by kernel_rfl) (by kernel_rfl) rfl rfl
        exact reg_loadRange 24 _ rfl e0 (hx.later hH.below hab) Tryd.underlying24 rfl (by rw [List.size_toArray, bcells_length, xL.out]; exact infNode)
      refine Flow.pass_old (X := .int .u32 (idx : Int)) 1 (Flow.met_some 9 true 32 rfl rfl (by kernel_rfl) (by kernel_rfl) rfl rfl) (.inl rfl) (by kernel_rfl) (by kernel_rfl) rfl ?_
      refine Flow.pass_old (X := .slice A1 NS.length c1) 7 (Flow.met_some 9 true 32 rfl rfl (by kernel_rfl) (by kernel_rfl) rfl rfl) (.inl rfl) (by kernel_rfl) (by kernel_rfl) rfl ?_
      refine Flow.pass_val (.agg (bcells sd).toArray) (Flow.met_some 9 true 32 rfl rfl (by kernel_rfl) (by kernel_rfl) rfl rfl) (fun a W hH => ?_) ?_
      · have e0 := Flow.see_old 5 hH.sees (by kernel_rfl) (by kernel_rfl) rfl
        exact reg_load 24 _ rfl e0 (hb_sd.drew.below hH.below hb_sd.lt) Tryd.underlying24 rfl (by rw [List.size_toArray, bcells_length, sdL.out]; exact infNode)
      refine Flow.pass_step (Reg.eqs (.agg (bcells S).toArray)) (fun _ _ => Flow.kept_eqs _ _) (Flow.met_some 9 true 32 rfl rfl (by kernel_rfl) (by kernel_rfl) rfl rfl) (fun a W hH => ?_) ?_
      · have e0 := Flow.see_new 36 13 hH.sees (by kernel_rfl) (by kernel_rfl) rfl rfl
        have e1 := Flow.see_new 37 14 hH.sees (by kernel_rfl) (by kernel_rfl) rfl rfl
        have e2 := Flow.see_new 38 15 hH.sees (by kernel_rfl) (by kernel_rfl) rfl rfl
        have e3 := Flow.see_new 39 16 hH.sees (by kernel_rfl) (by kernel_rfl) rfl rfl
        refine Reg.wp_call rfl Tryd.func14 rfl (by kernel_rfl) (by simp [Act.eval, e0, e1, e2, e3]) (mroot_any x xL.out idx hidx A1 NS.length c1 NS rfl HNS32.out sd sdL.out W ((hRA.below hH.below).more hH.below.size) (hT1.drew.under hH.below hT1.rounds.lt hT1.first.lt)) ?_
        rintro e w' ⟨rfl, hB⟩
        rw [← HS.out]
        exact ⟨_, rfl, _, rfl, hB, rfl⟩
      refine Flow.pass_val (.agg (bcells S).toArray) (Flow.met_some 9 true 32 rfl rfl (by kernel_rfl) (by kernel_rfl) rfl rfl) (fun a W hH => ?_) ?_
      · have e0 := Flow.see_old 8 hH.sees (by kernel_rfl) (by kernel_rfl) rfl
        exact reg_load 24 _ rfl e0 (hb_S.drew.below hH.below hb_S.lt) Tryd.underlying24 rfl (by rw [List.size_toArray, bcells_length, SL.out]; exact infNode)
      refine Flow.pass_val ((.bool true)) (Flow.met_some 9 true 32 rfl rfl (by kernel_rfl) (by kernel_rfl) rfl rfl) (fun a W hH => ?_) ?_
      · have e0 := Flow.see_new 40 17 hH.sees (by kernel_rfl) (by kernel_rfl) rfl rfl
        have e1 := Flow.see_new 41 18 hH.sees (by kernel_rfl) (by kernel_rfl) rfl rfl
        exact reg_eqlT rfl (by simpa [Act.eval] using e0) (by simpa [Act.eval] using e1) nodeGuard (by have hne := nodeEq S S HSl.out HSl.out W; rw [beq_self_eq_true] at hne; exact hne)
      refine Flow.pass_val ((.bool true)) (Flow.met_some 2 false 25 rfl rfl (by kernel_rfl) (by kernel_rfl) rfl rfl) (fun a W hH => ?_) ?_
      · have e0 := Flow.see_new 32 9 hH.sees (by kernel_rfl) (by kernel_rfl) rfl rfl
        have e1 := Flow.see_new 42 19 hH.sees (by kernel_rfl) (by kernel_rfl) rfl rfl
        go_simp; first | done | rfl
      refine Flow.pass_val ((.bool true)) (Flow.met_none rfl) (fun a W hH => ?_) ?_
      · have e0 := Flow.see_new 25 2 hH.sees (by kernel_rfl) (by kernel_rfl) rfl rfl
        have e1 := Flow.see_new 43 20 hH.sees (by kernel_rfl) (by kernel_rfl) rfl rfl
        go_simp; first | done | rfl
      refine Flow.pass_copy 44 21 (Flow.met_none rfl) (.inr rfl) (by kernel_rfl) (by kernel_rfl) rfl rfl (fun _ _ => Flow.kept_eqs _ _) ?_
      refine Flow.pass_end [none, none, none, none, none, none, some 6, none, none, none, none, none, none, none, none, none, none, none, none, none, none, none, none, some 23, some 24, some 25, some 26, some 27, some 28, some 29, some 30, some 31, some 32, some 33, some 34, some 35, some 36, some 37, some 38, some 39, some 40, some 41, some 42, some 43, some 44] (by kernel_rfl) ?_
      intro f gg w9 hB hfa hT hfg
      have h6 : f 6 = _ := (hfg 6 22 (by kernel_rfl)).trans (hT 22 _ (by kernel_rfl) rfl)
      have B9 := B3.drew.trans (hB.mono B3.drew.size)
      clear hfa hT hfg hB
      simp only [Reg.sel, h6]
      go_wp2
      go_ret
      exact ⟨rfl, B9⟩
    · have hob : ok = false := by simpa using hob
      subst hob
      clear hT
      go_wp2_with ((with_reducible refine at_store 24 ?_); refine wpList_storeAll _ rfl 24 _ _ rfl W2.heap.size 24 zn (bcells S).toArray (Blk.new W2 24 zn) rfl rfl (by rw [List.size_toArray, bcells_length, HSl.out, hs32.out]) (by rw [List.size_toArray, bcells_length, HSl.out]; exact infNode) (fun v hv => bcells_one _ v (by simpa using hv)) ?_; intro W3 hb_S hg hs; have hB23 := grown_below ((Below.refl W2.heap.size W2).alloc (Nat.le_refl _) (.cells zn 24)) hg (by simp) (Nat.le_refl _); skip)
      have B3 := B2.trans (hB23.mono B2.size)
      clear hR12 hR2 hb2 hB23 B2 hc1 hb_S
      refine Flow.wp_region_flow (W3.drew.heap.size) [] [] (by kernel_rfl) (by kernel_rfl) (Nat.le_refl _) (fun _ h => by cases h) Flow.facts_nil ?_
      refine Flow.pass_old (X := .bool false) 9 (Flow.met_none rfl) (.inl rfl) (by kernel_rfl) (by kernel_rfl) rfl ?_
      refine Flow.pass_val ((.bool true)) (Flow.met_none rfl) (fun a W hH => ?_) ?_
      · have e0 := Flow.see_new 23 0 hH.sees (by kernel_rfl) (by kernel_rfl) rfl rfl
        go_simp; first | done | rfl
      refine Flow.pass_val ((.bool true)) (Flow.met_none rfl) (fun a W hH => ?_) ?_
      · have e0 := Flow.see_new 24 1 hH.sees (by kernel_rfl) (by kernel_rfl) rfl rfl
        go_simp; first | done | rfl
      refine Flow.pass_skip (fun a W hH => Flow.not_wanted 2 false 25 hH rfl rfl (by kernel_rfl) (by kernel_rfl) rfl rfl) ?_
      refine Flow.pass_skip (fun a W hH => Flow.not_wanted 2 false 25 hH rfl rfl (by kernel_rfl) (by kernel_rfl) rfl rfl) ?_
      refine Flow.pass_skip (fun a W hH => Flow.not_wanted 2 false 25 hH rfl rfl (by kernel_rfl) (by kernel_rfl) rfl rfl) ?_
      refine Flow.pass_skip (fun a W hH => Flow.not_wanted 2 false 25 hH rfl rfl (by kernel_rfl) (by kernel_rfl) rfl rfl) ?_
      refine Flow.pass_skip (fun a W hH => Flow.not_wanted 2 false 25 hH rfl rfl (by kernel_rfl) (by kernel_rfl) rfl rfl) ?_
      refine Flow.pass_skip (fun a W hH => Flow.not_wanted 2 false 25 hH rfl rfl (by kernel_rfl) (by kernel_rfl) rfl rfl) ?_
      refine Flow.pass_skip (fun a W hH => Flow.not_wanted 2 false 25 hH rfl rfl (by kernel_rfl) (by kernel_rfl) rfl rfl) ?_
      refine Flow.pass_skip (fun a W hH => Flow.not_wanted_undef 9 true 32 hH rfl rfl (by kernel_rfl) (by kernel_rfl) rfl rfl) ?_
      refine Flow.pass_skip (fun a W hH => Flow.not_wanted_undef 9 true 32 hH rfl rfl (by kernel_rfl) (by kernel_rfl) rfl rfl) ?_
      refine Flow.pass_skip (fun a W hH => Flow.not_wanted_undef 9 true 32 hH rfl rfl (by kernel_rfl) (by kernel_rfl) rfl rfl) ?_
      refine Flow.pass_skip (fun a W hH => Flow.not_wanted_undef 9 true 32 hH rfl rfl (by kernel_rfl) (by kernel_rfl) rfl rfl) ?_
      refine Flow.pass_skip (fun a W hH => Flow.not_wanted_undef 9 true 32 hH rfl rfl (by kernel_rfl) (by kernel_rfl) rfl rfl) ?_
      refine Flow.pass_skip (fun a W hH => Flow.not_wanted_undef 9 true 32 hH rfl rfl (by kernel_rfl) (by kernel_rfl) rfl rfl) ?_
      refine Flow.pass_skip (fun a W hH => Flow.not_wanted_undef 9 true 32 hH rfl rfl (by kernel_rfl) (by kernel_rfl) rfl rfl) ?_
      refine Flow.pass_skip (fun a W hH => Flow.not_wanted_undef 9 true 32 hH rfl rfl (by kernel_rfl) (by kernel_rfl) rfl rfl) ?_
      refine Flow.pass_skip (fun a W hH => Flow.not_wanted_undef 9 true 32 hH rfl rfl (by kernel_rfl) (by kernel_rfl) rfl rfl) ?_
      refine Flow.pass_skip (fun a W hH => Flow.not_wanted_undef 9 true 32 hH rfl rfl (by kernel_rfl) (by kernel_rfl) rfl rfl) ?_
      refine Flow.pass_skip (fun a W hH => Flow.not_wanted 2 false 25 hH rfl rfl (by kernel_rfl) (by kernel_rfl) rfl rfl) ?_
      refine Flow.pass_val ((.bool true)) (Flow.met_none rfl) (fun a W hH => ?_) ?_
      · have e0 := Flow.see_new 25 2 hH.sees (by kernel_rfl) (by kernel_rfl) rfl rfl
        have e1 := Flow.see_new 43 20 hH.sees (by kernel_rfl) (by kernel_rfl) rfl rfl
        go_simp; first | done | rfl
      refine Flow.pass_copy 44 21 (Flow.met_none rfl) (.inr rfl) (by kernel_rfl) (by kernel_rfl) rfl rfl (fun _ _ => Flow.kept_eqs _ _) ?_
      refine Flow.pass_end [none, none, none, none, none, none, some 6, none, none, none, none, none, none, none, none, none, none, none, none, none, none, none, none, some 23, some 24, some 25, some 26, some 27, some 28, some 29, some 30, some 31, some 32, some 33, some 34, some 35, some 36, some 37, some 38, some 39, some 40, some 41, some 42, some 43, some 44] (by kernel_rfl) ?_
      intro f gg w9 hB hfa hT hfg
      have h6 : f 6 = _ := (hfg 6 22 (by kernel_rfl)).trans (hT 22 _ (by kernel_rfl) rfl)
      have B9 := B3.drew.trans (hB.mono B3.drew.size)
      clear hfa hT hfg hB
      simp only [Reg.sel, h6]
      go_wp2
      go_ret
      exact ⟨rfl, B9⟩
  · have h40' : (40 : Int) < (n : Int) := by omega
    go_wp2_with fail
    go_ret
    exact ⟨rfl, B1⟩
end Go.Proofs.YtgfdjfglfipjfaaDoor
