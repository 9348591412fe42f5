/-
  Walk: portreevelaw09.do: one deed of both memories.
-/
import Derived.Test.YtjfmgoickokbjaaDoA
import Derived.Test.YtjfmgoickokbjaaBT
namespace Go.Proofs.Ytjfmgoickokbjaa
open Go.RowKit

def DoRet (w : World) (p r : Nat) (ram : Sp) (m : Mm) (F G : Nat → Prop) (N : Nat) (e : Ending) (w' : World) : Prop := e = .returned (.bool true) ∧ DoAfter w w' p r ram m F G N
theorem doM_1 (ram : Sp) (m : Mm) (a x : Nat) (A : Option Addr) (n c : Nat) (l : List UInt8) : doM ram m ⟨1, a, x, A, n, c, l⟩ = writeV ram m a l := by simp [doM]
theorem doM_2 (ram : Sp) (m : Mm) (a x : Nat) (A : Option Addr) (n c : Nat) (l : List UInt8) : doM ram m ⟨2, a, x, A, n, c, l⟩ = zV ram m ⟨a, x⟩ := by simp [doM]
theorem doM_0 (ram : Sp) (m : Mm) (k : Int) (hk : k = 0 ∨ k = 3) (a x : Nat) (A : Option Addr) (n c : Nat) (l : List UInt8) : doM ram m ⟨k, a, x, A, n, c, l⟩ = m := by simp only [doM]; rw [if_pos hk]
theorem doM_4 (ram : Sp) (m : Mm) (k : Int) (h0 : k ≠ 0) (h1 : k ≠ 1) (h2 : k ≠ 2) (h3 : k ≠ 3) (a x : Nat) (A : Option Addr) (n c : Nat) (l : List UInt8) : doM ram m ⟨k, a, x, A, n, c, l⟩ = putV ram m a x := by
  simp only [doM]; rw [if_neg (by omega), if_neg h1, if_neg h2]

set_option maxRecDepth 100000 in
set_option maxHeartbeats 4000000 in
theorem do_any (p r : Nat) (ram : Sp) (okr : ram.ok) (hr40 : ram.base + ram.size ≤ 1099511627776) (m : Mm) (F G : Nat → Prop) (N : Nat) (hN : N + 5000 ≤ 1000000) (B0 : Nat) (d : Dd) (w : World) (okd : d.ok w B0) (h5 : d.n ≤ 5000)
    (hB0 : B0 ≤ w.heap.size) (hFB : ∀ b, F b → B0 ≤ b) (hGB : ∀ b, G b → B0 ≤ b) (hT : Two w p r ram m F G N) :
    Calls Try.prog 28 #[.pointer (some ⟨p, 0, none⟩), .pointer (some ⟨r, 0, none⟩), .agg d.cells.toArray] w (DoRet w p r ram (doM ram m d) F G (N + 5000)) := by
  obtain ⟨k, ad, nu, A, n, c, l⟩ := d
  obtain ⟨wk, ha, hx, ⟨hnc, hc⟩, hR⟩ := okd
  simp only at wk ha hx hnc hc hR h5
  have hl : n = l.length := by have := hR.len; rw [bcells_length] at this; omega
  have hfF : 0 < n → ∀ x, A = some x → ¬ F x.block := fun h0 y hy hF => by
    obtain ⟨b, off, e, h1, _⟩ := hR.range (by omega)
    rw [hy] at e; cases e
    have := hFB _ hF; simp only at this; omega
  have hfG : 0 < n → ∀ x, A = some x → ¬ G x.block := fun h0 y hy hF => by
    obtain ⟨b, off, e, h1, _⟩ := hR.range (by omega)
    rw [hy] at e; cases e
    have := hGB _ hF; simp only at this; omega
  have hN1 : N + n < maxLen := by simp only [maxLen]; omega
  have HL := Lib.hid hl
  have hbx := Blk.new w 69 #[.int .i64 k, .int .u64 (ad : Int), .int .u64 (nu : Int), .slice A n c]
  have B1 : Below w.heap.size w (w.alloc (.cells #[.int .i64 k, .int .u64 (ad : Int), .int .u64 (nu : Int), .slice A n c] 69)) := (Below.refl _ _).alloc (Nat.le_refl _) _
  have hbF : ¬ F w.heap.size := fun h => by have := hT.pm.flt _ h; omega
  have hbG : ¬ G w.heap.size := fun h => by have := hT.rm.flt _ h; omega
  have hT1 := hT.below B1 (Nat.le_refl _)
  have hRw := hR.below (B1.mono hB0)
  have hB1 : B0 ≤ (w.alloc (.cells #[.int .i64 k, .int .u64 (ad : Int), .int .u64 (nu : Int), .slice A n c] 69)).heap.size := Nat.le_trans hB0 B1.size
  clear hl hR wk
  show Calls Try.prog 28 #[_, _, .agg #[.int .i64 k, .int .u64 (ad : Int), .int .u64 (nu : Int), .slice A n c]] w _
  by_cases h0 : k = 0
  · subst h0
    rw [doM_0 ram m 0 (.inl rfl)]
    go_enter Try.func28, Try.ntmps28
    go_wp2_with fail
    generalize w.alloc (.cells #[.int .i64 0, .int .u64 (ad : Int), .int .u64 (nu : Int), .slice A n c] 69) = W1 at *
    have q1 := mread_any p ram okr m F N ad nu ha hx W1 hT1.pm
    have q2 := fun W h => rread_any r ram okr hr40 m G N (by omega) ad nu ha hx W h
    obtain ⟨V, hV⟩ : ∃ V, V = readV ram m ad nu := ⟨_, rfl⟩
    obtain ⟨E, hE⟩ : ∃ E, E = askErr ram ad nu := ⟨_, rfl⟩
    rw [← hV, ← hE] at q1
    simp only [← hV, ← hE] at q2
    clear hV hE hfF hfG hbF hbG
    go_wp2_with fail
    refine Calls.mono q1 ?_
    rintro e W2 ⟨A4, c4, rfl, _, r4, hB2, _⟩
    have hbx2 := hbx.below hB2 hbx.lt
    have q3 := q2 W2 (hT1.rm.below hB2 (Nat.le_refl _))
    have B2 := B1.trans (hB2.mono B1.size)
    clear q1 q2
    have cc1 : W2.cell? ⟨w.heap.size, 1, none⟩ = some (.int .u64 (ad : Int)) := (hbx2.cell 1).trans rfl
    have cc2 : W2.cell? ⟨w.heap.size, 2, none⟩ = some (.int .u64 (nu : Int)) := (hbx2.cell 2).trans rfl
    clear hbx hbx2 hT1 hRw hB1 B1 hB2
    go_wp2_with fail
    refine Calls.mono q3 ?_
    rintro e W3 ⟨A5, c5, rfl, _, r5, hB3⟩
    have r43 := (r4.below hB3).more hB3.size
    have B3 := B2.trans (hB3.mono B2.size)
    have s1 := run_str W3 26 9 5 A4 V.length c4 V Try.underlying26 Try.underlying5 Try.underlying9 r43
    have s2 := run_str W3 26 9 5 A5 V.length c5 V Try.underlying26 Try.underlying5 Try.underlying9 r5
    clear q3 cc1 cc2
    go_wp2
    go_ret
    exact ⟨rfl, DoAfter.more (DoAfter.same hT B3) (by omega)⟩
  by_cases h1 : k = 1
  · subst h1
    rw [doM_1]
    go_enter Try.func28, Try.ntmps28
    go_wp2_with fail
    generalize w.alloc (.cells #[.int .i64 1, .int .u64 (ad : Int), .int .u64 (nu : Int), .slice A n c] 69) = W1 at *
    have hN2 : N + n ≤ 1000000 := by omega
    have hl := HL.out
    go_wp2
    refine Flow.wp_region_flow (B0) [(5, F), (11, G)] [(2, fun W => Blk W w.heap.size 69 (#[.int .i64 1, .int .u64 (ad : Int), .int .u64 (nu : Int), .slice A n c])), (4, fun W => Blk W w.heap.size 69 (#[.int .i64 1, .int .u64 (ad : Int), .int .u64 (nu : Int), .slice A n c])), (8, fun W => Blk W w.heap.size 69 (#[.int .i64 1, .int .u64 (ad : Int), .int .u64 (nu : Int), .slice A n c])), (10, fun W => Blk W w.heap.size 69 (#[.int .i64 1, .int .u64 (ad : Int), .int .u64 (nu : Int), .slice A n c])), (5, fun W => PMem W p ram m F N), (11, fun W => RMem W r ram m G N), (14, fun W => Chg (fun b => F b ∨ G b) w W)] (by kernel_rfl) (by kernel_rfl) (by assumption) (Flow.nz_cons (fun b hb => hFB b hb) (Flow.nz_cons (fun b hb => hGB b hb) Flow.nz_nil)) (Flow.facts_cons (hbx.drew) (Flow.kept_blk id) (Flow.fz_cons (Flow.no_follow (by kernel_rfl)) (Flow.fz_cons (Flow.no_follow (by kernel_rfl)) Flow.fz_nil)) (Flow.facts_cons (hbx.drew) (Flow.kept_blk id) (Flow.fz_cons (Flow.no_follow (by kernel_rfl)) (Flow.fz_cons (Flow.no_follow (by kernel_rfl)) Flow.fz_nil)) (Flow.facts_cons (hbx.drew) (Flow.kept_blk id) (Flow.fz_cons (fun _ => Flow.kept_blk hbF) (Flow.fz_cons (Flow.no_follow (by kernel_rfl)) Flow.fz_nil)) (Flow.facts_cons (hbx.drew) (Flow.kept_blk id) (Flow.fz_cons (fun _ => Flow.kept_blk hbF) (Flow.fz_cons (Flow.no_follow (by kernel_rfl)) Flow.fz_nil)) (Flow.facts_cons (hT1.pm.keep (Nat.le_refl _) (fun _ _ _ => rfl)) (fun _ _ c h => h.keep c.size (fun b _ hl => c.block b hl id)) (Flow.fz_cons (Flow.no_follow (by kernel_rfl)) (Flow.fz_cons (Flow.no_follow (by kernel_rfl)) Flow.fz_nil)) (Flow.facts_cons (hT1.rm.keep (Nat.le_refl _) (fun _ _ _ => rfl)) (fun _ _ c h => h.keep c.size (fun b _ hl => c.block b hl id)) (Flow.fz_cons (fun _ => fun _ _ c h => h.keep c.size (fun b hb hl => c.block b hl (fun hF => hT1.dis b hF hb))) (Flow.fz_cons (Flow.no_follow (by kernel_rfl)) Flow.fz_nil)) (Flow.facts_cons ((Chg.of_ext B1).drew) (fun _ _ c h => h.trans (c.mono (fun _ h => h.elim))) (Flow.fz_cons (fun _ => fun _ _ c h => h.trans (c.mono (fun _ h => .inl h))) (Flow.fz_cons (fun _ => fun _ _ c h => h.trans (c.mono (fun _ h => .inr h))) Flow.fz_nil)) Flow.facts_nil))))))) ?_
    refine Flow.pass_old (X := .pointer (some ⟨p, 0, none⟩)) 0 (Flow.met_none rfl) (.inl rfl) (by kernel_rfl) (by kernel_rfl) rfl ?_
    refine Flow.pass_val (.pointer (some ⟨w.heap.size, 1, none⟩)) (Flow.met_none rfl) (fun a W hH => ?_) ?_
    · have e0 := Flow.see_old 5 hH.sees (by kernel_rfl) (by kernel_rfl) rfl
      go_simp; first | done | rfl
    refine Flow.pass_val (.int .u64 (ad : Int)) (Flow.met_none rfl) (fun a W hH => ?_) ?_
    · have e0 := Flow.see_new 51 1 hH.sees (by kernel_rfl) (by kernel_rfl) rfl rfl
      have fa0 : (fun W => Blk W w.heap.size 69 (#[.int .i64 1, .int .u64 (ad : Int), .int .u64 (nu : Int), .slice A n c])) W := hH.fact _ (List.mem_of_getElem? (i := 0) rfl) rfl
      have cc : World.cell? W ⟨w.heap.size, 1, none⟩ = some (.int .u64 (ad : Int)) := (fa0.cell 1).trans rfl; go_simp; first | done | rfl
    refine Flow.pass_val (.pointer (some ⟨w.heap.size, 3, none⟩)) (Flow.met_none rfl) (fun a W hH => ?_) ?_
    · have e0 := Flow.see_old 5 hH.sees (by kernel_rfl) (by kernel_rfl) rfl
      go_simp; first | done | rfl
    refine Flow.pass_val (.slice A n c) (Flow.met_none rfl) (fun a W hH => ?_) ?_
    · have e0 := Flow.see_new 53 3 hH.sees (by kernel_rfl) (by kernel_rfl) rfl rfl
      have fa1 : (fun W => Blk W w.heap.size 69 (#[.int .i64 1, .int .u64 (ad : Int), .int .u64 (nu : Int), .slice A n c])) W := hH.fact _ (List.mem_of_getElem? (i := 1) rfl) rfl
      have cc : World.cell? W ⟨w.heap.size, 3, none⟩ = some (.slice A n c) := (fa1.cell 3).trans rfl; go_simp; first | done | rfl
    refine Flow.pass_gen (fun v W => ∃ F1 : Nat → Prop, v = .int .i64 (askErr ram ad n) ∧ (PMem W p ram (writeV ram m ad l) F1 (N + n) ∧ (∀ b, F1 b → ¬ G b) ∧ ∀ b, F1 b → F b ∨ w.heap.size ≤ b)) (Flow.kept_of (fun _ _ _ c ⟨F1, h1, h2, h3, h4⟩ => ⟨F1, h1, h2.keep c.size (fun b _ hl => c.block b hl id), h3, h4⟩) (Flow.kz_cons (Flow.no_follow (by kernel_rfl)) (Flow.kz_cons (fun _ => fun _ _ _ c ⟨F1, h1, h2, h3, h4⟩ => ⟨F1, h1, h2.keep c.size (fun b hb hl => c.block b hl (h3 b hb)), h3, h4⟩) Flow.kz_nil))) (Flow.met_none rfl) (fun a W hH => ?_) ?_
    · have e0 := Flow.see_new 50 0 hH.sees (by kernel_rfl) (by kernel_rfl) rfl rfl
      have e1 := Flow.see_new 52 2 hH.sees (by kernel_rfl) (by kernel_rfl) rfl rfl
      have e2 := Flow.see_new 54 4 hH.sees (by kernel_rfl) (by kernel_rfl) rfl rfl
      have fa4 : (fun W => PMem W p ram m F N) W := hH.fact _ (List.mem_of_getElem? (i := 4) rfl) rfl
      refine Flow.wp_callZ rfl Try.func14 rfl (by kernel_rfl) (by simp [Act.eval, e0, e1, e2]) (mwrite_any p ram okr hr40 m F N ad A n c l ha hl hnc hc hN1 W ((hRw.drew.below hH.below).more (Nat.le_trans hB1 hH.below.size)) hfF fa4) ?_
      rintro e w' ⟨rfl, hA⟩
      obtain ⟨F1, q1, q2, q3, q4⟩ := two_first hT (Nat.le_trans B1.size hH.below.size) hA
      exact ⟨_, rfl, q2, F1, rfl, q1, q3, q4⟩
    refine Flow.pass_old (X := .pointer (some ⟨r, 0, none⟩)) 1 (Flow.met_none rfl) (.inl rfl) (by kernel_rfl) (by kernel_rfl) rfl ?_
    refine Flow.pass_val (.pointer (some ⟨w.heap.size, 1, none⟩)) (Flow.met_none rfl) (fun a W hH => ?_) ?_
    · have e0 := Flow.see_old 5 hH.sees (by kernel_rfl) (by kernel_rfl) rfl
      go_simp; first | done | rfl
    refine Flow.pass_val (.int .u64 (ad : Int)) (Flow.met_none rfl) (fun a W hH => ?_) ?_
    · have e0 := Flow.see_new 57 7 hH.sees (by kernel_rfl) (by kernel_rfl) rfl rfl
      have fa2 : (fun W => Blk W w.heap.size 69 (#[.int .i64 1, .int .u64 (ad : Int), .int .u64 (nu : Int), .slice A n c])) W := hH.fact _ (List.mem_of_getElem? (i := 2) rfl) rfl
      have cc : World.cell? W ⟨w.heap.size, 1, none⟩ = some (.int .u64 (ad : Int)) := (fa2.cell 1).trans rfl; go_simp; first | done | rfl
    refine Flow.pass_val (.pointer (some ⟨w.heap.size, 3, none⟩)) (Flow.met_none rfl) (fun a W hH => ?_) ?_
    · have e0 := Flow.see_old 5 hH.sees (by kernel_rfl) (by kernel_rfl) rfl
      go_simp; first | done | rfl
    refine Flow.pass_val (.slice A n c) (Flow.met_none rfl) (fun a W hH => ?_) ?_
    · have e0 := Flow.see_new 59 9 hH.sees (by kernel_rfl) (by kernel_rfl) rfl rfl
      have fa3 : (fun W => Blk W w.heap.size 69 (#[.int .i64 1, .int .u64 (ad : Int), .int .u64 (nu : Int), .slice A n c])) W := hH.fact _ (List.mem_of_getElem? (i := 3) rfl) rfl
      have cc : World.cell? W ⟨w.heap.size, 3, none⟩ = some (.slice A n c) := (fa3.cell 3).trans rfl; go_simp; first | done | rfl
    refine Flow.pass_gen (fun v W => ∃ F1 G1 : Nat → Prop, v = .int .i64 (askErr ram ad n) ∧ (Two W p r ram (writeV ram m ad l) F1 G1 (N + n) ∧ (∀ b, F1 b → F b ∨ w.heap.size ≤ b) ∧ ∀ b, G1 b → G b ∨ w.heap.size ≤ b)) (Flow.kept_of (fun _ _ _ c ⟨F1, G1, h1, h2, h3, h4⟩ => ⟨F1, G1, h1, h2.ext c.ext, h3, h4⟩) (Flow.kz_cons (Flow.no_follow (by kernel_rfl)) (Flow.kz_cons (Flow.no_follow (by kernel_rfl)) Flow.kz_nil))) (Flow.met_none rfl) (fun a W hH => ?_) ?_
    · have e0 := Flow.see_new 56 6 hH.sees (by kernel_rfl) (by kernel_rfl) rfl rfl
      have e1 := Flow.see_new 58 8 hH.sees (by kernel_rfl) (by kernel_rfl) rfl rfl
      have e2 := Flow.see_new 60 10 hH.sees (by kernel_rfl) (by kernel_rfl) rfl rfl
      have fa5 : (fun W => RMem W r ram m G N) W := hH.fact _ (List.mem_of_getElem? (i := 5) rfl) rfl
      obtain ⟨_, F1, _, hP1, hP2, hP3⟩ := Flow.past_up 5 hH.past (by kernel_rfl) (by kernel_rfl) rfl
      refine Flow.wp_callZ rfl Try.func45 rfl (by kernel_rfl) (by simp [Act.eval, e0, e1, e2]) (rwrite_any r ram okr hr40 m G N ad A n c l ha hl hnc hc hN2 W ((hRw.drew.below hH.below).more (Nat.le_trans hB1 hH.below.size)) hfG fa5) ?_
      rintro e w' ⟨rfl, hA⟩
      obtain ⟨G1, q1, q2, q3⟩ := two_second hP1 hP2 (Nat.le_trans B1.size hH.below.size) hA
      exact ⟨_, rfl, q2, F1, G1, rfl, q1, hP3, q3⟩
    refine Flow.pass_val (.bool true) (Flow.met_none rfl) (fun a W hH => ?_) ?_
    · obtain ⟨F10, e0, q0⟩ := Flow.see_up 55 5 hH.sees (by kernel_rfl) (by kernel_rfl) rfl rfl
      obtain ⟨F11, G11, e1, q1⟩ := Flow.see_up 61 11 hH.sees (by kernel_rfl) (by kernel_rfl) rfl rfl
      go_simp; first | done | rfl | (simp; done)
    refine Flow.pass_copy 62 12 (Flow.met_none rfl) (.inr rfl) (by kernel_rfl) (by kernel_rfl) rfl rfl (fun _ _ => Flow.kept_eqs _ _) ?_
    refine Flow.pass_end [none, none, none, none, none, none, some 6, none, none, none, none, none, none, none, none, none, none, none, none, none, none, none, none, none, none, none, none, none, none, none, none, none, none, none, none, none, none, none, none, none, none, none, none, none, none, none, none, none, none, none, some 50, some 51, some 52, some 53, some 54, some 55, some 56, some 57, some 58, some 59, some 60, some 61, some 62, none, none, none, none, none, none, none, none, none, none, none, none, none, none, none, none, none, none, none, none, none, none, none, none, none, none, none, none, none, none, none, none, none, none, none, none, none, none, none, none, none, none, none, none, none, none, none, none, none, none, none] (by kernel_rfl) ?_
    intro f gg w9 hB hfa hT hfg
    obtain ⟨F161, G161, h61, g61⟩ := hT 11 _ (by kernel_rfl) rfl
    rw [← hfg 61 11 (by kernel_rfl)] at h61
    have h6 : f 6 = _ := (hfg 6 13 (by kernel_rfl)).trans (hT 13 _ (by kernel_rfl) rfl)
    have F6 : (fun W => Chg (fun b => F b ∨ G b) w W) w9 := hfa _ (List.mem_of_getElem? (i := 6) rfl) (Nat.le_refl _)
    simp only [Reg.sel, h6]
    obtain ⟨g1, g2, g3⟩ := g61
    have hC := hfa _ (List.mem_of_getElem? (i := 6) rfl) (Nat.le_refl _)
    clear hT hfg hfa h6 h61
    go_wp2
    go_ret
    exact ⟨rfl, _, _, g1.more (by omega), hC, g2, g3⟩
  by_cases h2 : k = 2
  · subst h2
    rw [doM_2]
    go_enter Try.func28, Try.ntmps28
    go_wp2_with fail
    have hs1 : (w.alloc (.cells #[.int .i64 2, .int .u64 (ad : Int), .int .u64 (nu : Int), .slice A n c] 69)).heap.size = w.heap.size + 1 := by simp
    generalize w.alloc (.cells #[.int .i64 2, .int .u64 (ad : Int), .int .u64 (nu : Int), .slice A n c] 69) = W1 at *
    have hN2 : N ≤ 1000000 := by omega
    have oks : (Sp.mk ad nu).ok := ⟨ha, hx⟩
    have hsp := Blk.new W1 24 #[.int .u64 (ad : Int), .int .u64 (nu : Int)]
    rw [hs1] at hsp
    have B3 := B1.alloc B1.size (.cells #[.int .u64 (ad : Int), .int .u64 (nu : Int)] 24)
    have hsF : ¬ F (w.heap.size + 1) := fun h => by have := hT1.pm.flt _ h; omega
    have hsG : ¬ G (w.heap.size + 1) := fun h => by have := hT1.rm.flt _ h; omega
    have hT3 := hT1.below ((Below.refl W1.heap.size W1).alloc (Nat.le_refl _) (.cells #[.int .u64 (ad : Int), .int .u64 (nu : Int)] 24)) (Nat.le_refl _)
    clear hT1 B1 hB1 hRw hbx
    generalize W1.alloc (.cells #[.int .u64 (ad : Int), .int .u64 (nu : Int)] 24) = W3 at *
    have hT1 := hT3
    have B1 := B3
    have hB1 : B0 ≤ W3.heap.size := Nat.le_trans hB0 B1.size
    refine Flow.wp_region_flow (B0) [(2, F), (5, G)] [(1, fun W => Blk W (w.heap.size + 1) 24 (#[.int .u64 (ad : Int), .int .u64 (nu : Int)])), (4, fun W => Blk W (w.heap.size + 1) 24 (#[.int .u64 (ad : Int), .int .u64 (nu : Int)])), (2, fun W => PMem W p ram m F N), (5, fun W => RMem W r ram m G N), (8, fun W => Chg (fun b => F b ∨ G b) w W)] (by kernel_rfl) (by kernel_rfl) (by assumption) (Flow.nz_cons (fun b hb => hFB b hb) (Flow.nz_cons (fun b hb => hGB b hb) Flow.nz_nil)) (Flow.facts_cons (hsp.drew) (Flow.kept_blk id) (Flow.fz_cons (Flow.no_follow (by kernel_rfl)) (Flow.fz_cons (Flow.no_follow (by kernel_rfl)) Flow.fz_nil)) (Flow.facts_cons (hsp.drew) (Flow.kept_blk id) (Flow.fz_cons (fun _ => Flow.kept_blk hsF) (Flow.fz_cons (Flow.no_follow (by kernel_rfl)) Flow.fz_nil)) (Flow.facts_cons (hT1.pm.keep (Nat.le_refl _) (fun _ _ _ => rfl)) (fun _ _ c h => h.keep c.size (fun b _ hl => c.block b hl id)) (Flow.fz_cons (Flow.no_follow (by kernel_rfl)) (Flow.fz_cons (Flow.no_follow (by kernel_rfl)) Flow.fz_nil)) (Flow.facts_cons (hT1.rm.keep (Nat.le_refl _) (fun _ _ _ => rfl)) (fun _ _ c h => h.keep c.size (fun b _ hl => c.block b hl id)) (Flow.fz_cons (fun _ => fun _ _ c h => h.keep c.size (fun b hb hl => c.block b hl (fun hF => hT1.dis b hF hb))) (Flow.fz_cons (Flow.no_follow (by kernel_rfl)) Flow.fz_nil)) (Flow.facts_cons ((Chg.of_ext B1).drew) (fun _ _ c h => h.trans (c.mono (fun _ h => h.elim))) (Flow.fz_cons (fun _ => fun _ _ c h => h.trans (c.mono (fun _ h => .inl h))) (Flow.fz_cons (fun _ => fun _ _ c h => h.trans (c.mono (fun _ h => .inr h))) Flow.fz_nil)) Flow.facts_nil))))) ?_
    refine Flow.pass_old (X := .pointer (some ⟨p, 0, none⟩)) 0 (Flow.met_none rfl) (.inl rfl) (by kernel_rfl) (by kernel_rfl) rfl ?_
    refine Flow.pass_val (.agg #[.int .u64 (ad : Int), .int .u64 (nu : Int)]) (Flow.met_none rfl) (fun a W hH => ?_) ?_
    · have e0 := Flow.see_old 11 hH.sees (by kernel_rfl) (by kernel_rfl) rfl
      have fa0 : (fun W => Blk W (w.heap.size + 1) 24 (#[.int .u64 (ad : Int), .int .u64 (nu : Int)])) W := hH.fact _ (List.mem_of_getElem? (i := 0) rfl) rfl
      exact reg_load 24 _ rfl e0 fa0 Try.underlying24 rfl infSpan
    refine Flow.pass_gen (fun v W => ∃ F1 : Nat → Prop, v = .int .i64 (zErr ram ⟨ad, nu⟩) ∧ (PMem W p ram (zV ram m ⟨ad, nu⟩) F1 (N) ∧ (∀ b, F1 b → ¬ G b) ∧ ∀ b, F1 b → F b ∨ w.heap.size ≤ b)) (Flow.kept_of (fun _ _ _ c ⟨F1, h1, h2, h3, h4⟩ => ⟨F1, h1, h2.keep c.size (fun b _ hl => c.block b hl id), h3, h4⟩) (Flow.kz_cons (Flow.no_follow (by kernel_rfl)) (Flow.kz_cons (fun _ => fun _ _ _ c ⟨F1, h1, h2, h3, h4⟩ => ⟨F1, h1, h2.keep c.size (fun b hb hl => c.block b hl (h3 b hb)), h3, h4⟩) Flow.kz_nil))) (Flow.met_none rfl) (fun a W hH => ?_) ?_
    · have e0 := Flow.see_new 70 0 hH.sees (by kernel_rfl) (by kernel_rfl) rfl rfl
      have e1 := Flow.see_new 71 1 hH.sees (by kernel_rfl) (by kernel_rfl) rfl rfl
      have fa2 : (fun W => PMem W p ram m F N) W := hH.fact _ (List.mem_of_getElem? (i := 2) rfl) rfl
      refine Flow.wp_callZ rfl Try.func32 rfl (by kernel_rfl) (by simp [Act.eval, e0, e1, Sp.cells]) (mzero_any p ram okr hr40 m F N ⟨ad, nu⟩ oks W fa2) ?_
      rintro e w' ⟨rfl, hA⟩
      obtain ⟨F1, q1, q2, q3, q4⟩ := two_first hT (Nat.le_trans B1.size hH.below.size) hA
      exact ⟨_, rfl, q2, F1, rfl, q1, q3, q4⟩
    refine Flow.pass_old (X := .pointer (some ⟨r, 0, none⟩)) 1 (Flow.met_none rfl) (.inl rfl) (by kernel_rfl) (by kernel_rfl) rfl ?_
    refine Flow.pass_val (.agg #[.int .u64 (ad : Int), .int .u64 (nu : Int)]) (Flow.met_none rfl) (fun a W hH => ?_) ?_
    · have e0 := Flow.see_old 11 hH.sees (by kernel_rfl) (by kernel_rfl) rfl
      have fa1 : (fun W => Blk W (w.heap.size + 1) 24 (#[.int .u64 (ad : Int), .int .u64 (nu : Int)])) W := hH.fact _ (List.mem_of_getElem? (i := 1) rfl) rfl
      exact reg_load 24 _ rfl e0 fa1 Try.underlying24 rfl infSpan
    refine Flow.pass_gen (fun v W => ∃ F1 G1 : Nat → Prop, v = .int .i64 (zErr ram ⟨ad, nu⟩) ∧ (Two W p r ram (zV ram m ⟨ad, nu⟩) F1 G1 (N) ∧ (∀ b, F1 b → F b ∨ w.heap.size ≤ b) ∧ ∀ b, G1 b → G b ∨ w.heap.size ≤ b)) (Flow.kept_of (fun _ _ _ c ⟨F1, G1, h1, h2, h3, h4⟩ => ⟨F1, G1, h1, h2.ext c.ext, h3, h4⟩) (Flow.kz_cons (Flow.no_follow (by kernel_rfl)) (Flow.kz_cons (Flow.no_follow (by kernel_rfl)) Flow.kz_nil))) (Flow.met_none rfl) (fun a W hH => ?_) ?_
    · have e0 := Flow.see_new 73 3 hH.sees (by kernel_rfl) (by kernel_rfl) rfl rfl
      have e1 := Flow.see_new 74 4 hH.sees (by kernel_rfl) (by kernel_rfl) rfl rfl
      have fa3 : (fun W => RMem W r ram m G N) W := hH.fact _ (List.mem_of_getElem? (i := 3) rfl) rfl
      obtain ⟨_, F1, _, hP1, hP2, hP3⟩ := Flow.past_up 2 hH.past (by kernel_rfl) (by kernel_rfl) rfl
      refine Flow.wp_callZ rfl Try.func48 rfl (by kernel_rfl) (by simp [Act.eval, e0, e1, Sp.cells]) (rzero_any r ram okr m G N hN2 ⟨ad, nu⟩ oks W fa3) ?_
      rintro e w' ⟨rfl, hA⟩
      obtain ⟨G1, q1, q2, q3⟩ := two_second hP1 hP2 (Nat.le_trans B1.size hH.below.size) hA
      exact ⟨_, rfl, q2, F1, G1, rfl, q1, hP3, q3⟩
    refine Flow.pass_val (.bool true) (Flow.met_none rfl) (fun a W hH => ?_) ?_
    · obtain ⟨F10, e0, q0⟩ := Flow.see_up 72 2 hH.sees (by kernel_rfl) (by kernel_rfl) rfl rfl
      obtain ⟨F11, G11, e1, q1⟩ := Flow.see_up 75 5 hH.sees (by kernel_rfl) (by kernel_rfl) rfl rfl
      go_simp; first | done | rfl | (simp; done)
    refine Flow.pass_copy 76 6 (Flow.met_none rfl) (.inr rfl) (by kernel_rfl) (by kernel_rfl) rfl rfl (fun _ _ => Flow.kept_eqs _ _) ?_
    refine Flow.pass_end [none, none, none, none, none, none, some 6, none, none, none, none, none, none, none, none, none, none, none, none, none, none, none, none, none, none, none, none, none, none, none, none, none, none, none, none, none, none, none, none, none, none, none, none, none, none, none, none, none, none, none, none, none, none, none, none, none, none, none, none, none, none, none, none, none, none, none, none, none, none, none, some 70, some 71, some 72, some 73, some 74, some 75, some 76, none, none, none, none, none, none, none, none, none, none, none, none, none, none, none, none, none, none, none, none, none, none, none, none, none, none, none, none, none, none, none, none, none, none, none, none, none] (by kernel_rfl) ?_
    intro f gg w9 hB hfa hT hfg
    obtain ⟨F175, G175, h75, g75⟩ := hT 5 _ (by kernel_rfl) rfl
    rw [← hfg 75 5 (by kernel_rfl)] at h75
    have h6 : f 6 = _ := (hfg 6 7 (by kernel_rfl)).trans (hT 7 _ (by kernel_rfl) rfl)
    have F4 : (fun W => Chg (fun b => F b ∨ G b) w W) w9 := hfa _ (List.mem_of_getElem? (i := 4) rfl) (Nat.le_refl _)
    simp only [Reg.sel, h6]
    obtain ⟨g1, g2, g3⟩ := g75
    have hC := hfa _ (List.mem_of_getElem? (i := 4) rfl) (Nat.le_refl _)
    clear hT hfg hfa h6 h75
    go_wp2
    go_ret
    exact ⟨rfl, _, _, g1.more (by omega), hC, g2, g3⟩
  by_cases h3 : k = 3
  · subst h3
    rw [doM_0 ram m 3 (.inr rfl)]
    go_enter Try.func28, Try.ntmps28
    go_wp2_with fail
    generalize w.alloc (.cells #[.int .i64 3, .int .u64 (ad : Int), .int .u64 (nu : Int), .slice A n c] 69) = W1 at *
    have q1 := mword_any p ram okr m F N ad ha W1 hT1.pm
    have q2 := fun W h => rword_any r ram okr hr40 m G N (by omega) ad ha W h
    obtain ⟨V, hV⟩ : ∃ V, V = wordV ram m ad := ⟨_, rfl⟩
    obtain ⟨E, hE⟩ : ∃ E, E = wordErr ram ad := ⟨_, rfl⟩
    rw [← hV, ← hE] at q1
    simp only [← hV, ← hE] at q2
    clear hV hE hfF hfG hbF hbG
    go_wp2_with fail
    refine Calls.mono q1 ?_
    rintro e W2 ⟨rfl, hB2⟩
    have hbx2 := hbx.below hB2 hbx.lt
    have q3 := q2 W2 (hT1.rm.below hB2 (Nat.le_refl _))
    have B2 := B1.trans (hB2.mono B1.size)
    clear q1 q2
    have cc1 : W2.cell? ⟨w.heap.size, 1, none⟩ = some (.int .u64 (ad : Int)) := (hbx2.cell 1).trans rfl
    clear hbx hbx2 hT1 hRw hB1 B1 hB2
    go_wp2_with fail
    refine Calls.mono q3 ?_
    rintro e W3 ⟨rfl, hB3⟩
    have B3 := B2.trans (hB3.mono B2.size)
    clear q3 cc1
    go_wp2
    go_ret
    exact ⟨rfl, DoAfter.more (DoAfter.same hT B3) (by omega)⟩
  rw [doM_4 ram m k h0 h1 h2 h3]
  have e0 : (k == 0) = false := by simpa using h0
  have e1 : (k == 1) = false := by simpa using h1
  have e2 : (k == 2) = false := by simpa using h2
  have e3 : (k == 3) = false := by simpa using h3
  go_enter Try.func28, Try.ntmps28
  go_wp2_with fail
  generalize w.alloc (.cells #[.int .i64 k, .int .u64 (ad : Int), .int .u64 (nu : Int), .slice A n c] 69) = W1 at *
  have hN1 : N + 8 < maxLen := by simp only [maxLen]; omega
  have hN2 : N + 8 ≤ 1000000 := by omega
  go_wp2
  refine Flow.wp_region_flow (B0) [(5, F), (11, G)] [(2, fun W => Blk W w.heap.size 69 (#[.int .i64 k, .int .u64 (ad : Int), .int .u64 (nu : Int), .slice A n c])), (4, fun W => Blk W w.heap.size 69 (#[.int .i64 k, .int .u64 (ad : Int), .int .u64 (nu : Int), .slice A n c])), (8, fun W => Blk W w.heap.size 69 (#[.int .i64 k, .int .u64 (ad : Int), .int .u64 (nu : Int), .slice A n c])), (10, fun W => Blk W w.heap.size 69 (#[.int .i64 k, .int .u64 (ad : Int), .int .u64 (nu : Int), .slice A n c])), (5, fun W => PMem W p ram m F N), (11, fun W => RMem W r ram m G N), (14, fun W => Chg (fun b => F b ∨ G b) w W)] (by kernel_rfl) (by kernel_rfl) (by assumption) (Flow.nz_cons (fun b hb => hFB b hb) (Flow.nz_cons (fun b hb => hGB b hb) Flow.nz_nil)) (Flow.facts_cons (hbx.drew) (Flow.kept_blk id) (Flow.fz_cons (Flow.no_follow (by kernel_rfl)) (Flow.fz_cons (Flow.no_follow (by kernel_rfl)) Flow.fz_nil)) (Flow.facts_cons (hbx.drew) (Flow.kept_blk id) (Flow.fz_cons (Flow.no_follow (by kernel_rfl)) (Flow.fz_cons (Flow.no_follow (by kernel_rfl)) Flow.fz_nil)) (Flow.facts_cons (hbx.drew) (Flow.kept_blk id) (Flow.fz_cons (fun _ => Flow.kept_blk hbF) (Flow.fz_cons (Flow.no_follow (by kernel_rfl)) Flow.fz_nil)) (Flow.facts_cons (hbx.drew) (Flow.kept_blk id) (Flow.fz_cons (fun _ => Flow.kept_blk hbF) (Flow.fz_cons (Flow.no_follow (by kernel_rfl)) Flow.fz_nil)) (Flow.facts_cons (hT1.pm.keep (Nat.le_refl _) (fun _ _ _ => rfl)) (fun _ _ c h => h.keep c.size (fun b _ hl => c.block b hl id)) (Flow.fz_cons (Flow.no_follow (by kernel_rfl)) (Flow.fz_cons (Flow.no_follow (by kernel_rfl)) Flow.fz_nil)) (Flow.facts_cons (hT1.rm.keep (Nat.le_refl _) (fun _ _ _ => rfl)) (fun _ _ c h => h.keep c.size (fun b _ hl => c.block b hl id)) (Flow.fz_cons (fun _ => fun _ _ c h => h.keep c.size (fun b hb hl => c.block b hl (fun hF => hT1.dis b hF hb))) (Flow.fz_cons (Flow.no_follow (by kernel_rfl)) Flow.fz_nil)) (Flow.facts_cons ((Chg.of_ext B1).drew) (fun _ _ c h => h.trans (c.mono (fun _ h => h.elim))) (Flow.fz_cons (fun _ => fun _ _ c h => h.trans (c.mono (fun _ h => .inl h))) (Flow.fz_cons (fun _ => fun _ _ c h => h.trans (c.mono (fun _ h => .inr h))) Flow.fz_nil)) Flow.facts_nil))))))) ?_
  refine Flow.pass_old (X := .pointer (some ⟨p, 0, none⟩)) 0 (Flow.met_none rfl) (.inl rfl) (by kernel_rfl) (by kernel_rfl) rfl ?_
  refine Flow.pass_val (.pointer (some ⟨w.heap.size, 1, none⟩)) (Flow.met_none rfl) (fun a W hH => ?_) ?_
  · have e0 := Flow.see_old 5 hH.sees (by kernel_rfl) (by kernel_rfl) rfl
    go_simp; first | done | rfl
  refine Flow.pass_val (.int .u64 (ad : Int)) (Flow.met_none rfl) (fun a W hH => ?_) ?_
  · have e0 := Flow.see_new 102 1 hH.sees (by kernel_rfl) (by kernel_rfl) rfl rfl
    have fa0 : (fun W => Blk W w.heap.size 69 (#[.int .i64 k, .int .u64 (ad : Int), .int .u64 (nu : Int), .slice A n c])) W := hH.fact _ (List.mem_of_getElem? (i := 0) rfl) rfl
    have cc : World.cell? W ⟨w.heap.size, 1, none⟩ = some (.int .u64 (ad : Int)) := (fa0.cell 1).trans rfl; go_simp; first | done | rfl
  refine Flow.pass_val (.pointer (some ⟨w.heap.size, 2, none⟩)) (Flow.met_none rfl) (fun a W hH => ?_) ?_
  · have e0 := Flow.see_old 5 hH.sees (by kernel_rfl) (by kernel_rfl) rfl
    go_simp; first | done | rfl
  refine Flow.pass_val (.int .u64 (nu : Int)) (Flow.met_none rfl) (fun a W hH => ?_) ?_
  · have e0 := Flow.see_new 104 3 hH.sees (by kernel_rfl) (by kernel_rfl) rfl rfl
    have fa1 : (fun W => Blk W w.heap.size 69 (#[.int .i64 k, .int .u64 (ad : Int), .int .u64 (nu : Int), .slice A n c])) W := hH.fact _ (List.mem_of_getElem? (i := 1) rfl) rfl
    have cc : World.cell? W ⟨w.heap.size, 2, none⟩ = some (.int .u64 (nu : Int)) := (fa1.cell 2).trans rfl; go_simp; first | done | rfl
  refine Flow.pass_gen (fun v W => ∃ F1 : Nat → Prop, v = .int .i64 (mputErr ram ad) ∧ (PMem W p ram (putV ram m ad nu) F1 (N + 8) ∧ (∀ b, F1 b → ¬ G b) ∧ ∀ b, F1 b → F b ∨ w.heap.size ≤ b)) (Flow.kept_of (fun _ _ _ c ⟨F1, h1, h2, h3, h4⟩ => ⟨F1, h1, h2.keep c.size (fun b _ hl => c.block b hl id), h3, h4⟩) (Flow.kz_cons (Flow.no_follow (by kernel_rfl)) (Flow.kz_cons (fun _ => fun _ _ _ c ⟨F1, h1, h2, h3, h4⟩ => ⟨F1, h1, h2.keep c.size (fun b hb hl => c.block b hl (h3 b hb)), h3, h4⟩) Flow.kz_nil))) (Flow.met_none rfl) (fun a W hH => ?_) ?_
  · have e0 := Flow.see_new 101 0 hH.sees (by kernel_rfl) (by kernel_rfl) rfl rfl
    have e1 := Flow.see_new 103 2 hH.sees (by kernel_rfl) (by kernel_rfl) rfl rfl
    have e2 := Flow.see_new 105 4 hH.sees (by kernel_rfl) (by kernel_rfl) rfl rfl
    have fa4 : (fun W => PMem W p ram m F N) W := hH.fact _ (List.mem_of_getElem? (i := 4) rfl) rfl
    refine Flow.wp_callZ rfl Try.func22 rfl (by kernel_rfl) (by simp [Act.eval, e0, e1, e2]) (mput_any p ram okr hr40 m F N ad nu ha hN1 W fa4) ?_
    rintro e w' ⟨rfl, hA⟩
    obtain ⟨F1, q1, q2, q3, q4⟩ := two_first hT (Nat.le_trans B1.size hH.below.size) hA
    exact ⟨_, rfl, q2, F1, rfl, q1, q3, q4⟩
  refine Flow.pass_old (X := .pointer (some ⟨r, 0, none⟩)) 1 (Flow.met_none rfl) (.inl rfl) (by kernel_rfl) (by kernel_rfl) rfl ?_
  refine Flow.pass_val (.pointer (some ⟨w.heap.size, 1, none⟩)) (Flow.met_none rfl) (fun a W hH => ?_) ?_
  · have e0 := Flow.see_old 5 hH.sees (by kernel_rfl) (by kernel_rfl) rfl
    go_simp; first | done | rfl
  refine Flow.pass_val (.int .u64 (ad : Int)) (Flow.met_none rfl) (fun a W hH => ?_) ?_
  · have e0 := Flow.see_new 108 7 hH.sees (by kernel_rfl) (by kernel_rfl) rfl rfl
    have fa2 : (fun W => Blk W w.heap.size 69 (#[.int .i64 k, .int .u64 (ad : Int), .int .u64 (nu : Int), .slice A n c])) W := hH.fact _ (List.mem_of_getElem? (i := 2) rfl) rfl
    have cc : World.cell? W ⟨w.heap.size, 1, none⟩ = some (.int .u64 (ad : Int)) := (fa2.cell 1).trans rfl; go_simp; first | done | rfl
  refine Flow.pass_val (.pointer (some ⟨w.heap.size, 2, none⟩)) (Flow.met_none rfl) (fun a W hH => ?_) ?_
  · have e0 := Flow.see_old 5 hH.sees (by kernel_rfl) (by kernel_rfl) rfl
    go_simp; first | done | rfl
  refine Flow.pass_val (.int .u64 (nu : Int)) (Flow.met_none rfl) (fun a W hH => ?_) ?_
  · have e0 := Flow.see_new 110 9 hH.sees (by kernel_rfl) (by kernel_rfl) rfl rfl
    have fa3 : (fun W => Blk W w.heap.size 69 (#[.int .i64 k, .int .u64 (ad : Int), .int .u64 (nu : Int), .slice A n c])) W := hH.fact _ (List.mem_of_getElem? (i := 3) rfl) rfl
    have cc : World.cell? W ⟨w.heap.size, 2, none⟩ = some (.int .u64 (nu : Int)) := (fa3.cell 2).trans rfl; go_simp; first | done | rfl
  refine Flow.pass_gen (fun v W => ∃ F1 G1 : Nat → Prop, v = .int .i64 (mputErr ram ad) ∧ (Two W p r ram (putV ram m ad nu) F1 G1 (N + 8) ∧ (∀ b, F1 b → F b ∨ w.heap.size ≤ b) ∧ ∀ b, G1 b → G b ∨ w.heap.size ≤ b)) (Flow.kept_of (fun _ _ _ c ⟨F1, G1, h1, h2, h3, h4⟩ => ⟨F1, G1, h1, h2.ext c.ext, h3, h4⟩) (Flow.kz_cons (Flow.no_follow (by kernel_rfl)) (Flow.kz_cons (Flow.no_follow (by kernel_rfl)) Flow.kz_nil))) (Flow.met_none rfl) (fun a W hH => ?_) ?_
  · have e0 := Flow.see_new 107 6 hH.sees (by kernel_rfl) (by kernel_rfl) rfl rfl
    have e1 := Flow.see_new 109 8 hH.sees (by kernel_rfl) (by kernel_rfl) rfl rfl
    have e2 := Flow.see_new 111 10 hH.sees (by kernel_rfl) (by kernel_rfl) rfl rfl
    have fa5 : (fun W => RMem W r ram m G N) W := hH.fact _ (List.mem_of_getElem? (i := 5) rfl) rfl
    obtain ⟨_, F1, _, hP1, hP2, hP3⟩ := Flow.past_up 5 hH.past (by kernel_rfl) (by kernel_rfl) rfl
    refine Flow.wp_callZ rfl Try.func50 rfl (by kernel_rfl) (by simp [Act.eval, e0, e1, e2]) (rmput_any r ram okr hr40 m G N ad nu ha hN2 W fa5) ?_
    rintro e w' ⟨rfl, hA⟩
    obtain ⟨G1, q1, q2, q3⟩ := two_second hP1 hP2 (Nat.le_trans B1.size hH.below.size) hA
    exact ⟨_, rfl, q2, F1, G1, rfl, q1, hP3, q3⟩
  refine Flow.pass_val (.bool true) (Flow.met_none rfl) (fun a W hH => ?_) ?_
  · obtain ⟨F10, e0, q0⟩ := Flow.see_up 106 5 hH.sees (by kernel_rfl) (by kernel_rfl) rfl rfl
    obtain ⟨F11, G11, e1, q1⟩ := Flow.see_up 112 11 hH.sees (by kernel_rfl) (by kernel_rfl) rfl rfl
    go_simp; first | done | rfl | (simp; done)
  refine Flow.pass_copy 113 12 (Flow.met_none rfl) (.inr rfl) (by kernel_rfl) (by kernel_rfl) rfl rfl (fun _ _ => Flow.kept_eqs _ _) ?_
  refine Flow.pass_end [none, none, none, none, none, none, some 6, none, none, none, none, none, none, none, none, none, none, none, none, none, none, none, none, none, none, none, none, none, none, none, none, none, none, none, none, none, none, none, none, none, none, none, none, none, none, none, none, none, none, none, none, none, none, none, none, none, none, none, none, none, none, none, none, none, none, none, none, none, none, none, none, none, none, none, none, none, none, none, none, none, none, none, none, none, none, none, none, none, none, none, none, none, none, none, none, none, none, none, none, none, none, some 101, some 102, some 103, some 104, some 105, some 106, some 107, some 108, some 109, some 110, some 111, some 112, some 113] (by kernel_rfl) ?_
  intro f gg w9 hB hfa hT hfg
  obtain ⟨F1112, G1112, h112, g112⟩ := hT 11 _ (by kernel_rfl) rfl
  rw [← hfg 112 11 (by kernel_rfl)] at h112
  have h6 : f 6 = _ := (hfg 6 13 (by kernel_rfl)).trans (hT 13 _ (by kernel_rfl) rfl)
  have F6 : (fun W => Chg (fun b => F b ∨ G b) w W) w9 := hfa _ (List.mem_of_getElem? (i := 6) rfl) (Nat.le_refl _)
  simp only [Reg.sel, h6]
  obtain ⟨g1, g2, g3⟩ := g112
  have hC := hfa _ (List.mem_of_getElem? (i := 6) rfl) (Nat.le_refl _)
  clear hT hfg hfa h6 h112
  go_wp2
  go_ret
  exact ⟨rfl, _, _, g1.more (by omega), hC, g2, g3⟩
end Go.Proofs.Ytjfmgoickokbjaa
