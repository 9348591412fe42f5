/-
  Walks: the closures of load.Check.
-/
import Derived.Test.YtipdmhppadapkaaGreatDoorLdC
namespace Go.Proofs.YtipdmhppadapkaaGreatDoor
open Go.RowKit Sha

theorem reg_loadRng {P : Program} {o : Oper} {a : Act} {w : World} (ty : TypeId) (t : Tmp) (ho : o.op = .load ty (.tmp t)) {b off : Nat} {cs : List Value} (he : a.tmps[t]?.getD undef = .pointer (some ⟨b, off, none⟩))
    (h : w.rangeAt b off cs) {d : TypeDesc} (hu : P.underlying ty = some d) (hd : d.isRow = true) (hi : (P.info? ty).map (·.size) = some cs.length) :
    (execOp a.eval o).run P w = .ok (.value (.agg cs.toArray)) w := by
  have := run_loadAt_mid (P := P) w b off ty cs d h hu hd hi
  simp [execOp, ho, Act.eval, he, this]
theorem run_bs1L (w : World) (A : Option Addr) (n c : Nat) : (Instr.buildSlice 153 1 #[(0, .slice A n c)]).run Tryz.prog w = .ok (.slice (some ⟨w.heap.size, 0, none⟩) 1 1) (w.alloc (.cells #[.slice A n c] 22)) := by
  kernel_rfl
theorem strEq (a b : List UInt8) (w : World) : (binOp .eql 9 (.string ⟨a.toArray⟩) (.string ⟨b.toArray⟩)).run Tryz.prog w = .ok (.bool (a == b)) w := by
  simp [Lib.toList_data, go_sem]

set_option maxRecDepth 100000 in
theorem c1_any (v x y f : Nat) (l : List UInt8) (hl5 : l.length ≤ 1000000) (g : Gu) (w : World) (ok : g.ok w w.heap.size) (hv : Blk w v 80 #[.pointer (some ⟨x, 0, none⟩)]) (hy : Blk w y 43 #[.pointer (some ⟨f, 0, none⟩)])
    (hL : Lk w x g zhd (.slice none 0 0) (.slice none 0 0) (.slice none 0 0)) (hF : FL w f l) :
    Calls Tryz.prog 28 #[.pointer (some ⟨v, 0, none⟩), .pointer (some ⟨y, 0, none⟩)] w (LSpl w x l g) := by
  have cv : w.cell? ⟨v, 0, none⟩ = some (.pointer (some ⟨x, 0, none⟩)) := (hv.cell 0).trans rfl
  have cy : w.cell? ⟨y, 0, none⟩ = some (.pointer (some ⟨f, 0, none⟩)) := (hy.cell 0).trans rfl
  have hs := lsplit_any x f l hl5 g w ok hL hF
  obtain ⟨R, hR⟩ : ∃ R, LSpl w x l g = R := ⟨_, rfl⟩
  obtain ⟨E, hE⟩ : ∃ E, e0 l g = E := ⟨_, rfl⟩
  have hRr : ∀ e w', R e w' → e = .returned (.int .i64 E) := fun e w' h => by rw [← hR] at h; rw [← hE]; exact h.1
  rw [hR] at hs ⊢
  clear hL hF hv hy ok hR hE
  go_enter Tryz.func28, Tryz.ntmps28
  go_wp2_with fail
  refine Calls.mono hs ?_
  intro e w1 h1
  obtain rfl := hRr e w1 h1
  go_wp2
  exact h1

variable {w : World} {v x : Nat} {g : Gu} {h : Hd}
set_option maxRecDepth 100000 in
set_option maxHeartbeats 1000000 in
theorem c2_any (A1 : Option Addr) (n1 c1 : Nat) (m : List UInt8) (A2 : Option Addr) (n2 c2 : Nat) (sg : List UInt8) (S3 : Value) (hv : Blk w v 80 #[.pointer (some ⟨x, 0, none⟩)]) (hL : Lk w x g h (.slice A1 n1 c1) (.slice A2 n2 c2) S3)
    (hk : g.key.length = 68) (hd : h.dig.length = 32) (hm5 : n1 ≤ 500) (hmc : n1 ≤ c1 ∧ c1 ≤ 9223372036854775807) (hs3 : n2 ≤ 3000) (hsc : n2 ≤ c2) (r1 : Rd w w.heap.size 1 A1 n1 (bcells m)) (r2 : Rd w w.heap.size 1 A2 n2 (bcells sg)) (hT0 : Tabs w) :
    Calls Tryz.prog 30 #[.pointer (some ⟨v, 0, none⟩)] w fun e w' => e = .returned (.int .i64 (verErr g.key m sg)) ∧ Below w.heap.size w w' := by
  go_enter Tryz.func30, Tryz.ntmps30
  go_wp2_with fail
  refine Flow.wp_region_flow (w.heap.size) [] [] (by kernel_rfl) (by kernel_rfl) (Nat.le_refl _) (fun _ h => by cases h) Flow.facts_nil ?_
  refine Flow.pass_val (.pointer (some ⟨x, 0, none⟩)) (Flow.met_none rfl) (fun a W hH => ?_) ?_
  · have e0 := Flow.see_old 0 hH.sees (by kernel_rfl) (by kernel_rfl) rfl
    have cc : World.cell? W ⟨v, 0, none⟩ = some (.pointer (some ⟨x, 0, none⟩)) := ((hv.drew.below hH.below hv.lt).cell 0).trans rfl; go_simp; first | done | rfl
  refine Flow.pass_val (.pointer (some ⟨x, 0, none⟩)) (Flow.met_none rfl) (fun a W hH => ?_) ?_
  · have e0 := Flow.see_new 2 0 hH.sees (by kernel_rfl) (by kernel_rfl) rfl rfl
    go_simp; first | done | rfl
  refine Flow.pass_val (.pointer (some ⟨x, 0, none⟩)) (Flow.met_none rfl) (fun a W hH => ?_) ?_
  · have e0 := Flow.see_new 3 1 hH.sees (by kernel_rfl) (by kernel_rfl) rfl rfl
    go_simp; first | done | rfl
  refine Flow.pass_val (.pointer (some ⟨x, 7, none⟩)) (Flow.met_none rfl) (fun a W hH => ?_) ?_
  · have e0 := Flow.see_new 4 2 hH.sees (by kernel_rfl) (by kernel_rfl) rfl rfl
    go_simp; first | done | rfl
  refine Flow.pass_val (.slice (some ⟨x, 7, none⟩) 68 68) (Flow.met_none rfl) (fun a W hH => ?_) ?_
  · have e0 := Flow.see_new 5 3 hH.sees (by kernel_rfl) (by kernel_rfl) rfl rfl
    go_simp; first | done | rfl
  refine Flow.pass_val (.pointer (some ⟨x, 0, none⟩)) (Flow.met_none rfl) (fun a W hH => ?_) ?_
  · have e0 := Flow.see_old 0 hH.sees (by kernel_rfl) (by kernel_rfl) rfl
    have cc : World.cell? W ⟨v, 0, none⟩ = some (.pointer (some ⟨x, 0, none⟩)) := ((hv.drew.below hH.below hv.lt).cell 0).trans rfl; go_simp; first | done | rfl
  refine Flow.pass_val (.pointer (some ⟨x, 0, none⟩)) (Flow.met_none rfl) (fun a W hH => ?_) ?_
  · have e0 := Flow.see_new 7 5 hH.sees (by kernel_rfl) (by kernel_rfl) rfl rfl
    go_simp; first | done | rfl
  refine Flow.pass_val (.pointer (some ⟨x, 114, none⟩)) (Flow.met_none rfl) (fun a W hH => ?_) ?_
  · have e0 := Flow.see_new 8 6 hH.sees (by kernel_rfl) (by kernel_rfl) rfl rfl
    go_simp; first | done | rfl
  refine Flow.pass_val (.slice A1 n1 c1) (Flow.met_none rfl) (fun a W hH => ?_) ?_
  · have e0 := Flow.see_new 9 7 hH.sees (by kernel_rfl) (by kernel_rfl) rfl rfl
    have cc := Lk.s1 (hL.drew.below hH.below hL.lt : Lk W x g h _ _ _) hk hd; go_simp; first | done | rfl
  refine Flow.pass_val (.pointer (some ⟨x, 0, none⟩)) (Flow.met_none rfl) (fun a W hH => ?_) ?_
  · have e0 := Flow.see_old 0 hH.sees (by kernel_rfl) (by kernel_rfl) rfl
    have cc : World.cell? W ⟨v, 0, none⟩ = some (.pointer (some ⟨x, 0, none⟩)) := ((hv.drew.below hH.below hv.lt).cell 0).trans rfl; go_simp; first | done | rfl
  refine Flow.pass_val (.pointer (some ⟨x, 0, none⟩)) (Flow.met_none rfl) (fun a W hH => ?_) ?_
  · have e0 := Flow.see_new 11 9 hH.sees (by kernel_rfl) (by kernel_rfl) rfl rfl
    go_simp; first | done | rfl
  refine Flow.pass_val (.pointer (some ⟨x, 115, none⟩)) (Flow.met_none rfl) (fun a W hH => ?_) ?_
  · have e0 := Flow.see_new 12 10 hH.sees (by kernel_rfl) (by kernel_rfl) rfl rfl
    go_simp; first | done | rfl
  refine Flow.pass_val (.slice A2 n2 c2) (Flow.met_none rfl) (fun a W hH => ?_) ?_
  · have e0 := Flow.see_new 13 11 hH.sees (by kernel_rfl) (by kernel_rfl) rfl rfl
    have cc := Lk.s2 (hL.drew.below hH.below hL.lt : Lk W x g h _ _ _) hk hd; go_simp; first | done | rfl
  refine Flow.pass_step (Reg.eqs (.int .i64 (verErr g.key m sg))) (fun _ _ => Flow.kept_eqs _ _) (Flow.met_none rfl) (fun a W hH => ?_) ?_
  · have e0 := Flow.see_new 6 4 hH.sees (by kernel_rfl) (by kernel_rfl) rfl rfl
    have e1 := Flow.see_new 10 8 hH.sees (by kernel_rfl) (by kernel_rfl) rfl rfl
    have e2 := Flow.see_new 14 12 hH.sees (by kernel_rfl) (by kernel_rfl) rfl rfl
    refine Reg.wp_call rfl Tryz.func31 rfl (by kernel_rfl) (by simp [Act.eval, e0, e1, e2]) (mVerify_any (some ⟨x, 7, none⟩) 68 68 g.key (by omega) (by omega) A1 n1 c1 m hm5 hmc A2 n2 c2 sg hs3 hsc W (Lk.key (hL.drew.below hH.below hL.lt : Lk W x g h _ _ _) hk) ((r1.drew.below hH.below).more hH.below.size) ((r2.drew.below hH.below).more hH.below.size) (hT0.drew.below hH.below)) ?_
    rintro e w' ⟨rfl, hB⟩
    exact ⟨_, rfl, _, rfl, hB, rfl⟩
  refine Flow.pass_copy 15 13 (Flow.met_none rfl) (.inr rfl) (by kernel_rfl) (by kernel_rfl) rfl rfl (fun _ _ => Flow.kept_eqs _ _) ?_
  refine Flow.pass_end [none, some 1, some 2, some 3, some 4, some 5, some 6, some 7, some 8, some 9, some 10, some 11, some 12, some 13, some 14, some 15] (by kernel_rfl) ?_
  intro f gg w9 hB hfa hT hfg
  have h1 : f 1 = _ := (hfg 1 14 (by kernel_rfl)).trans (hT 14 _ (by kernel_rfl) rfl)
  have B := ((Below.refl w.heap.size w).drew).trans hB
  simp only [Reg.sel, h1]
  clear hT hfg hfa
  go_wp2
  go_ret
  exact ⟨rfl, B⟩
set_option maxRecDepth 100000 in
set_option maxHeartbeats 1000000 in
theorem c3_any (A3 : Option Addr) (n3 c3 : Nat) (p : List UInt8) (S1 S2 : Value) (hv : Blk w v 80 #[.pointer (some ⟨x, 0, none⟩)]) (hL : Lk w x g h S1 S2 (.slice A3 n3 c3))
    (hk : g.key.length = 68) (hd : h.dig.length = 32) (hp5 : n3 ≤ 1000000) (hpc : n3 ≤ c3 ∧ c3 ≤ 9223372036854775807) (r3 : Rd w w.heap.size 1 A3 n3 (bcells p)) (hT0 : Tabs w) :
    Calls Tryz.prog 32 #[.pointer (some ⟨v, 0, none⟩)] w fun e w' => e = .returned (.int .i64 (if Sha.sum p = h.dig then 0 else 150)) ∧ Below w.heap.size w w' := by
  obtain ⟨Z, hZ⟩ : ∃ Z, (if Sha.sum p = h.dig then (0 : Int) else 150) = Z := ⟨_, rfl⟩
  rw [hZ]
  have HZ := Lib.hid hZ
  clear hZ
  go_enter Tryz.func32, Tryz.ntmps32
  go_wp2_with fail
  refine Flow.wp_region_flow (w.heap.size) [] [] (by kernel_rfl) (by kernel_rfl) (Nat.le_refl _) (fun _ h => by cases h) Flow.facts_nil ?_
  refine Flow.pass_val (.pointer (some ⟨x, 0, none⟩)) (Flow.met_none rfl) (fun a W hH => ?_) ?_
  · have e0 := Flow.see_old 0 hH.sees (by kernel_rfl) (by kernel_rfl) rfl
    have cc : World.cell? W ⟨v, 0, none⟩ = some (.pointer (some ⟨x, 0, none⟩)) := ((hv.drew.below hH.below hv.lt).cell 0).trans rfl; go_simp; first | done | rfl
  refine Flow.pass_val (.pointer (some ⟨x, 0, none⟩)) (Flow.met_none rfl) (fun a W hH => ?_) ?_
  · have e0 := Flow.see_new 2 0 hH.sees (by kernel_rfl) (by kernel_rfl) rfl rfl
    go_simp; first | done | rfl
  refine Flow.pass_val (.pointer (some ⟨x, 116, none⟩)) (Flow.met_none rfl) (fun a W hH => ?_) ?_
  · have e0 := Flow.see_new 3 1 hH.sees (by kernel_rfl) (by kernel_rfl) rfl rfl
    go_simp; first | done | rfl
  refine Flow.pass_val (.slice A3 n3 c3) (Flow.met_none rfl) (fun a W hH => ?_) ?_
  · have e0 := Flow.see_new 4 2 hH.sees (by kernel_rfl) (by kernel_rfl) rfl rfl
    have cc := Lk.s3 (hL.drew.below hH.below hL.lt : Lk W x g h _ _ _) hk hd; go_simp; first | done | rfl
  refine Flow.pass_build (e := 22) (n := 1) (vals := #[.slice A3 n3 c3]) (Flow.kept_of (Flow.kept_built _ _ _) Flow.kz_nil) (Flow.met_none rfl) (fun a W hH => ?_) ?_
  · have e0 := Flow.see_new 5 3 hH.sees (by kernel_rfl) (by kernel_rfl) rfl rfl
    exact Flow.reg_buildSlice #[(0, .slice A3 n3 c3)] rfl (by simp [Act.eval, e0]) (run_bs1L W A3 n3 c3)
  refine Flow.pass_step (Reg.eqs (.agg (bcells (Sha.sum p)).toArray)) (fun _ _ => Flow.kept_eqs _ _) (Flow.met_none rfl) (fun a W hH => ?_) ?_
  · obtain ⟨b0, e0, q0⟩ := Flow.see_up 6 4 hH.sees (by kernel_rfl) (by kernel_rfl) rfl rfl
    refine Reg.wp_call rfl Tryz.func34 rfl (by kernel_rfl) (by simp [Act.eval, e0]) (sum_any (some ⟨b0, 0, none⟩) 1 1 [⟨A3, n3, c3, p⟩] W (q0.rd rfl) (by intro b hb; obtain rfl := List.mem_singleton.1 hb; exact (r3.drew.below hH.below).more hH.below.size) (by intro b hb; obtain rfl := List.mem_singleton.1 hb; exact hpc) (by simpa [Bs.tot] using hp5) (by omega) (hT0.drew.below hH.below)) ?_
    rintro e w' ⟨rfl, hB⟩
    rw [show Bs.all [⟨A3, n3, c3, p⟩] = p from by simp [Bs.all]]
    exact ⟨_, rfl, _, rfl, hB, rfl⟩
  refine Flow.pass_val (.pointer (some ⟨x, 0, none⟩)) (Flow.met_none rfl) (fun a W hH => ?_) ?_
  · have e0 := Flow.see_old 0 hH.sees (by kernel_rfl) (by kernel_rfl) rfl
    have cc : World.cell? W ⟨v, 0, none⟩ = some (.pointer (some ⟨x, 0, none⟩)) := ((hv.drew.below hH.below hv.lt).cell 0).trans rfl; go_simp; first | done | rfl
  refine Flow.pass_val (.pointer (some ⟨x, 0, none⟩)) (Flow.met_none rfl) (fun a W hH => ?_) ?_
  · have e0 := Flow.see_new 8 6 hH.sees (by kernel_rfl) (by kernel_rfl) rfl rfl
    go_simp; first | done | rfl
  refine Flow.pass_val (.pointer (some ⟨x, 79, none⟩)) (Flow.met_none rfl) (fun a W hH => ?_) ?_
  · have e0 := Flow.see_new 9 7 hH.sees (by kernel_rfl) (by kernel_rfl) rfl rfl
    go_simp; first | done | rfl
  refine Flow.pass_val (.pointer (some ⟨x, 82, none⟩)) (Flow.met_none rfl) (fun a W hH => ?_) ?_
  · have e0 := Flow.see_new 10 8 hH.sees (by kernel_rfl) (by kernel_rfl) rfl rfl
    go_simp; first | done | rfl
  refine Flow.pass_val (.agg (bcells h.dig).toArray) (Flow.met_none rfl) (fun a W hH => ?_) ?_
  · have e0 := Flow.see_new 11 9 hH.sees (by kernel_rfl) (by kernel_rfl) rfl rfl
    exact reg_loadRng 39 _ rfl e0 (Lk.dig (hL.drew.below hH.below hL.lt : Lk W x g h _ _ _) hk hd) Tryz.underlying39 rfl (by rw [bcells_length, hd]; exact infNode)
  refine Flow.pass_val (.bool (Sha.sum p == h.dig)) (Flow.met_none rfl) (fun a W hH => ?_) ?_
  · have e0 := Flow.see_new 7 5 hH.sees (by kernel_rfl) (by kernel_rfl) rfl rfl
    have e1 := Flow.see_new 12 10 hH.sees (by kernel_rfl) (by kernel_rfl) rfl rfl
    exact reg_eqlT rfl (by simpa [Act.eval] using e0) (by simpa [Act.eval] using e1) nodeGuard (nodeEq _ _ (Sha.sum_length _) hd W)
  refine Flow.pass_step (Reg.eqs (.int .i64 (if (Sha.sum p == h.dig) = true then 0 else 150))) (fun _ _ => Flow.kept_eqs _ _) (Flow.met_none rfl) (fun a W hH => ?_) ?_
  · have e0 := Flow.see_new 13 11 hH.sees (by kernel_rfl) (by kernel_rfl) rfl rfl
    refine Reg.wp_call rfl Tryz.func33 rfl (by kernel_rfl) (by simp [Act.eval, e0]) (unless_any (Sha.sum p == h.dig) 150 W) ?_
    rintro e w' ⟨rfl, rfl⟩
    exact ⟨_, rfl, _, rfl, Ext.refl _, rfl⟩
  refine Flow.pass_copy 14 12 (Flow.met_none rfl) (.inr rfl) (by kernel_rfl) (by kernel_rfl) rfl rfl (fun _ _ => Flow.kept_eqs _ _) ?_
  refine Flow.pass_end [none, some 1, some 2, some 3, some 4, some 5, some 6, some 7, some 8, some 9, some 10, some 11, some 12, some 13, some 14] (by kernel_rfl) ?_
  intro f gg w9 hB hfa hT hfg
  have h1 : f 1 = _ := (hfg 1 13 (by kernel_rfl)).trans (hT 13 _ (by kernel_rfl) rfl)
  have B := ((Below.refl w.heap.size w).drew).trans hB
  have e : (if (Sha.sum p == h.dig) = true then (0 : Int) else 150) = if Sha.sum p = h.dig then 0 else 150 := by simp
  rw [e, HZ.out] at h1
  clear e
  simp only [Reg.sel, h1]
  clear hT hfg hfa
  go_wp2
  go_ret
  exact ⟨rfl, B⟩
set_option maxRecDepth 100000 in
set_option maxHeartbeats 1000000 in
theorem c4_any (S1 S2 S3 : Value) (hv : Blk w v 80 #[.pointer (some ⟨x, 0, none⟩)]) (hL : Lk w x g h S1 S2 S3) (hk : g.key.length = 68) :
    Calls Tryz.prog 35 #[.pointer (some ⟨v, 0, none⟩)] w fun e w' => e = .returned (.int .i64 (if h.name = g.name then 0 else 262)) ∧ Below w.heap.size w w' := by
  obtain ⟨Z, hZ⟩ : ∃ Z, (if h.name = g.name then (0 : Int) else 262) = Z := ⟨_, rfl⟩
  rw [hZ]
  have HZ := Lib.hid hZ
  clear hZ
  go_enter Tryz.func35, Tryz.ntmps35
  go_wp2_with fail
  refine Flow.wp_region_flow (w.heap.size) [] [] (by kernel_rfl) (by kernel_rfl) (Nat.le_refl _) (fun _ h => by cases h) Flow.facts_nil ?_
  refine Flow.pass_val (.pointer (some ⟨x, 0, none⟩)) (Flow.met_none rfl) (fun a W hH => ?_) ?_
  · have e0 := Flow.see_old 0 hH.sees (by kernel_rfl) (by kernel_rfl) rfl
    have cc : World.cell? W ⟨v, 0, none⟩ = some (.pointer (some ⟨x, 0, none⟩)) := ((hv.drew.below hH.below hv.lt).cell 0).trans rfl; go_simp; first | done | rfl
  refine Flow.pass_val (.pointer (some ⟨x, 0, none⟩)) (Flow.met_none rfl) (fun a W hH => ?_) ?_
  · have e0 := Flow.see_new 2 0 hH.sees (by kernel_rfl) (by kernel_rfl) rfl rfl
    go_simp; first | done | rfl
  refine Flow.pass_val (.pointer (some ⟨x, 79, none⟩)) (Flow.met_none rfl) (fun a W hH => ?_) ?_
  · have e0 := Flow.see_new 3 1 hH.sees (by kernel_rfl) (by kernel_rfl) rfl rfl
    go_simp; first | done | rfl
  refine Flow.pass_val (.pointer (some ⟨x, 81, none⟩)) (Flow.met_none rfl) (fun a W hH => ?_) ?_
  · have e0 := Flow.see_new 4 2 hH.sees (by kernel_rfl) (by kernel_rfl) rfl rfl
    go_simp; first | done | rfl
  refine Flow.pass_val (.string ⟨h.name.toArray⟩) (Flow.met_none rfl) (fun a W hH => ?_) ?_
  · have e0 := Flow.see_new 5 3 hH.sees (by kernel_rfl) (by kernel_rfl) rfl rfl
    have cc := Lk.hname (hL.drew.below hH.below hL.lt : Lk W x g h _ _ _) hk; go_simp; first | done | rfl
  refine Flow.pass_val (.pointer (some ⟨x, 0, none⟩)) (Flow.met_none rfl) (fun a W hH => ?_) ?_
  · have e0 := Flow.see_old 0 hH.sees (by kernel_rfl) (by kernel_rfl) rfl
    have cc : World.cell? W ⟨v, 0, none⟩ = some (.pointer (some ⟨x, 0, none⟩)) := ((hv.drew.below hH.below hv.lt).cell 0).trans rfl; go_simp; first | done | rfl
  refine Flow.pass_val (.pointer (some ⟨x, 0, none⟩)) (Flow.met_none rfl) (fun a W hH => ?_) ?_
  · have e0 := Flow.see_new 7 5 hH.sees (by kernel_rfl) (by kernel_rfl) rfl rfl
    go_simp; first | done | rfl
  refine Flow.pass_val (.pointer (some ⟨x, 0, none⟩)) (Flow.met_none rfl) (fun a W hH => ?_) ?_
  · have e0 := Flow.see_new 8 6 hH.sees (by kernel_rfl) (by kernel_rfl) rfl rfl
    go_simp; first | done | rfl
  refine Flow.pass_val (.pointer (some ⟨x, 0, none⟩)) (Flow.met_none rfl) (fun a W hH => ?_) ?_
  · have e0 := Flow.see_new 9 7 hH.sees (by kernel_rfl) (by kernel_rfl) rfl rfl
    go_simp; first | done | rfl
  refine Flow.pass_val (.string ⟨g.name.toArray⟩) (Flow.met_none rfl) (fun a W hH => ?_) ?_
  · have e0 := Flow.see_new 10 8 hH.sees (by kernel_rfl) (by kernel_rfl) rfl rfl
    have cc := Lk.name (hL.drew.below hH.below hL.lt : Lk W x g h _ _ _); go_simp; first | done | rfl
  refine Flow.pass_val (.bool (h.name == g.name)) (Flow.met_none rfl) (fun a W hH => ?_) ?_
  · have e0 := Flow.see_new 6 4 hH.sees (by kernel_rfl) (by kernel_rfl) rfl rfl
    have e1 := Flow.see_new 11 9 hH.sees (by kernel_rfl) (by kernel_rfl) rfl rfl
    have cc := strEq h.name g.name W; go_simp; first | done | rfl | simp [Lib.toList_data]
  refine Flow.pass_step (Reg.eqs (.int .i64 (if (h.name == g.name) = true then 0 else 262))) (fun _ _ => Flow.kept_eqs _ _) (Flow.met_none rfl) (fun a W hH => ?_) ?_
  · have e0 := Flow.see_new 12 10 hH.sees (by kernel_rfl) (by kernel_rfl) rfl rfl
    refine Reg.wp_call rfl Tryz.func33 rfl (by kernel_rfl) (by simp [Act.eval, e0]) (unless_any (h.name == g.name) 262 W) ?_
    rintro e w' ⟨rfl, rfl⟩
    exact ⟨_, rfl, _, rfl, Ext.refl _, rfl⟩
  refine Flow.pass_copy 13 11 (Flow.met_none rfl) (.inr rfl) (by kernel_rfl) (by kernel_rfl) rfl rfl (fun _ _ => Flow.kept_eqs _ _) ?_
  refine Flow.pass_end [none, some 1, some 2, some 3, some 4, some 5, some 6, some 7, some 8, some 9, some 10, some 11, some 12, some 13] (by kernel_rfl) ?_
  intro f gg w9 hB hfa hT hfg
  have h1 : f 1 = _ := (hfg 1 12 (by kernel_rfl)).trans (hT 12 _ (by kernel_rfl) rfl)
  have B := ((Below.refl w.heap.size w).drew).trans hB
  have e : (if (h.name == g.name) = true then (0 : Int) else 262) = if h.name = g.name then 0 else 262 := by simp
  rw [e, HZ.out] at h1
  clear e
  simp only [Reg.sel, h1]
  clear hT hfg hfa
  go_wp2
  go_ret
  exact ⟨rfl, B⟩
set_option maxRecDepth 100000 in
set_option maxHeartbeats 1000000 in
theorem fits_any (S1 S2 S3 : Value) (hL : Lk w x g h S1 S2 S3) (ok : g.ok w w.heap.size) (hs : h.size < 4294967296) :
    Calls Tryz.prog 37 #[.pointer (some ⟨x, 0, none⟩)] w fun e w' => e = .returned (.bool (decide (0 < g.wn ∧ h.size ≤ g.wsz))) ∧ Below w.heap.size w w' := by
  have hk := ok.key
  have hw1 : IntKind.u64.wrap (h.size : Int) = (h.size : Int) := IntWalk.u64_in _ (by omega)
  by_cases h0 : 0 < g.wn
  · obtain ⟨wb, wo, hwA, hwlt, hwc⟩ := ok.win h0
    have hwA := Lib.hid hwA
    have hdv : decide (0 < g.wn ∧ h.size ≤ g.wsz) = decide ((h.size : Int) ≤ (g.wsz : Int)) := by
      by_cases q : h.size ≤ g.wsz
      · rw [decide_eq_true ⟨h0, q⟩, decide_eq_true (by omega)]
      · rw [decide_eq_false (fun z => q z.2), decide_eq_false (by omega)]
    rw [hdv]
    clear hdv
    go_enter Tryz.func37, Tryz.ntmps37
    go_wp2_with fail
    refine Flow.wp_region_flow (w.heap.size) [] [] (by kernel_rfl) (by kernel_rfl) (Nat.le_refl _) (fun _ h => by cases h) Flow.facts_nil ?_
    refine Flow.pass_old (X := .pointer (some ⟨x, 0, none⟩)) 0 (Flow.met_none rfl) (.inl rfl) (by kernel_rfl) (by kernel_rfl) rfl ?_
    refine Flow.pass_val (.pointer (some ⟨x, 0, none⟩)) (Flow.met_none rfl) (fun a W hH => ?_) ?_
    · have e0 := Flow.see_new 3 0 hH.sees (by kernel_rfl) (by kernel_rfl) rfl rfl
      go_simp; first | done | rfl
    refine Flow.pass_val (.pointer (some ⟨x, 0, none⟩)) (Flow.met_none rfl) (fun a W hH => ?_) ?_
    · have e0 := Flow.see_new 4 1 hH.sees (by kernel_rfl) (by kernel_rfl) rfl rfl
      go_simp; first | done | rfl
    refine Flow.pass_val (.pointer (some ⟨x, 75, none⟩)) (Flow.met_none rfl) (fun a W hH => ?_) ?_
    · have e0 := Flow.see_new 5 2 hH.sees (by kernel_rfl) (by kernel_rfl) rfl rfl
      go_simp; first | done | rfl
    refine Flow.pass_val (.slice (some ⟨wb, wo, none⟩) g.wn g.wc) (Flow.met_none rfl) (fun a W hH => ?_) ?_
    · have e0 := Flow.see_new 6 3 hH.sees (by kernel_rfl) (by kernel_rfl) rfl rfl
      have cc := Lk.win (hL.drew.below hH.below hL.lt : Lk W x g h _ _ _) hk; rw [hwA.out] at cc; go_simp; first | done | rfl
    refine Flow.pass_val (.int .i64 (g.wn : Int)) (Flow.met_none rfl) (fun a W hH => ?_) ?_
    · have e0 := Flow.see_new 7 4 hH.sees (by kernel_rfl) (by kernel_rfl) rfl rfl
      go_simp; first | done | rfl
    refine Flow.pass_val (.bool true) (Flow.met_none rfl) (fun a W hH => ?_) ?_
    · have e0 := Flow.see_new 8 5 hH.sees (by kernel_rfl) (by kernel_rfl) rfl rfl
      go_simp; first | done | rfl | (simp; omega)
    refine Flow.pass_copy 9 6 (Flow.met_none rfl) (.inl rfl) (by kernel_rfl) (by kernel_rfl) rfl rfl (fun _ _ => Flow.kept_eqs _ _) ?_
    refine Flow.pass_old (X := .pointer (some ⟨x, 0, none⟩)) 0 (Flow.met_some 7 true 10 rfl rfl (by kernel_rfl) (by kernel_rfl) rfl rfl) (.inl rfl) (by kernel_rfl) (by kernel_rfl) rfl ?_
    refine Flow.pass_val (.pointer (some ⟨x, 0, none⟩)) (Flow.met_some 7 true 10 rfl rfl (by kernel_rfl) (by kernel_rfl) rfl rfl) (fun a W hH => ?_) ?_
    · have e0 := Flow.see_new 11 8 hH.sees (by kernel_rfl) (by kernel_rfl) rfl rfl
      go_simp; first | done | rfl
    refine Flow.pass_val (.pointer (some ⟨x, 79, none⟩)) (Flow.met_some 7 true 10 rfl rfl (by kernel_rfl) (by kernel_rfl) rfl rfl) (fun a W hH => ?_) ?_
    · have e0 := Flow.see_new 12 9 hH.sees (by kernel_rfl) (by kernel_rfl) rfl rfl
      go_simp; first | done | rfl
    refine Flow.pass_val (.pointer (some ⟨x, 80, none⟩)) (Flow.met_some 7 true 10 rfl rfl (by kernel_rfl) (by kernel_rfl) rfl rfl) (fun a W hH => ?_) ?_
    · have e0 := Flow.see_new 13 10 hH.sees (by kernel_rfl) (by kernel_rfl) rfl rfl
      go_simp; first | done | rfl
    refine Flow.pass_val (.int .u32 (h.size : Int)) (Flow.met_some 7 true 10 rfl rfl (by kernel_rfl) (by kernel_rfl) rfl rfl) (fun a W hH => ?_) ?_
    · have e0 := Flow.see_new 14 11 hH.sees (by kernel_rfl) (by kernel_rfl) rfl rfl
      have cc := Lk.size_ (hL.drew.below hH.below hL.lt : Lk W x g h _ _ _) hk; go_simp; first | done | rfl
    refine Flow.pass_val (.int .u64 (h.size : Int)) (Flow.met_some 7 true 10 rfl rfl (by kernel_rfl) (by kernel_rfl) rfl rfl) (fun a W hH => ?_) ?_
    · have e0 := Flow.see_new 15 12 hH.sees (by kernel_rfl) (by kernel_rfl) rfl rfl
      have hw := hw1; go_simp; first | done | rfl
    refine Flow.pass_old (X := .pointer (some ⟨x, 0, none⟩)) 0 (Flow.met_some 7 true 10 rfl rfl (by kernel_rfl) (by kernel_rfl) rfl rfl) (.inl rfl) (by kernel_rfl) (by kernel_rfl) rfl ?_
    refine Flow.pass_val (.pointer (some ⟨x, 0, none⟩)) (Flow.met_some 7 true 10 rfl rfl (by kernel_rfl) (by kernel_rfl) rfl rfl) (fun a W hH => ?_) ?_
    · have e0 := Flow.see_new 17 14 hH.sees (by kernel_rfl) (by kernel_rfl) rfl rfl
      go_simp; first | done | rfl
    refine Flow.pass_val (.pointer (some ⟨x, 0, none⟩)) (Flow.met_some 7 true 10 rfl rfl (by kernel_rfl) (by kernel_rfl) rfl rfl) (fun a W hH => ?_) ?_
    · have e0 := Flow.see_new 18 15 hH.sees (by kernel_rfl) (by kernel_rfl) rfl rfl
      go_simp; first | done | rfl
    refine Flow.pass_val (.pointer (some ⟨x, 75, none⟩)) (Flow.met_some 7 true 10 rfl rfl (by kernel_rfl) (by kernel_rfl) rfl rfl) (fun a W hH => ?_) ?_
    · have e0 := Flow.see_new 19 16 hH.sees (by kernel_rfl) (by kernel_rfl) rfl rfl
      go_simp; first | done | rfl
    refine Flow.pass_val (.slice (some ⟨wb, wo, none⟩) g.wn g.wc) (Flow.met_some 7 true 10 rfl rfl (by kernel_rfl) (by kernel_rfl) rfl rfl) (fun a W hH => ?_) ?_
    · have e0 := Flow.see_new 20 17 hH.sees (by kernel_rfl) (by kernel_rfl) rfl rfl
      have cc := Lk.win (hL.drew.below hH.below hL.lt : Lk W x g h _ _ _) hk; rw [hwA.out] at cc; go_simp; first | done | rfl
    refine Flow.pass_val (.pointer (some ⟨wb, wo, none⟩)) (Flow.met_some 7 true 10 rfl rfl (by kernel_rfl) (by kernel_rfl) rfl rfl) (fun a W hH => ?_) ?_
    · have e0 := Flow.see_new 21 18 hH.sees (by kernel_rfl) (by kernel_rfl) rfl rfl
      exact reg_ixS (s := 4) 0 wo rfl Tryz.underlying26 (by kernel_rfl) (by simpa [Act.eval] using e0) (by simp [Act.eval]; rfl) rfl (by omega) (by omega)
    refine Flow.pass_val (.pointer (some ⟨wb, wo + 2, none⟩)) (Flow.met_some 7 true 10 rfl rfl (by kernel_rfl) (by kernel_rfl) rfl rfl) (fun a W hH => ?_) ?_
    · have e0 := Flow.see_new 22 19 hH.sees (by kernel_rfl) (by kernel_rfl) rfl rfl
      go_simp; first | done | rfl
    refine Flow.pass_val (.int .u64 (g.wsz : Int)) (Flow.met_some 7 true 10 rfl rfl (by kernel_rfl) (by kernel_rfl) rfl rfl) (fun a W hH => ?_) ?_
    · have e0 := Flow.see_new 23 20 hH.sees (by kernel_rfl) (by kernel_rfl) rfl rfl
      have cc : World.cell? W ⟨wb, wo + 2, none⟩ = some (.int .u64 (g.wsz : Int)) := (World.cell?_of_block (hH.below.block wb hwlt)).trans hwc; go_simp; first | done | rfl
    refine Flow.pass_val (.bool (decide ((h.size : Int) ≤ (g.wsz : Int)))) (Flow.met_some 7 true 10 rfl rfl (by kernel_rfl) (by kernel_rfl) rfl rfl) (fun a W hH => ?_) ?_
    · have e0 := Flow.see_new 16 13 hH.sees (by kernel_rfl) (by kernel_rfl) rfl rfl
      have e1 := Flow.see_new 24 21 hH.sees (by kernel_rfl) (by kernel_rfl) rfl rfl
      go_simp; first | done | rfl
    refine Flow.pass_val (.bool (decide ((h.size : Int) ≤ (g.wsz : Int)))) (Flow.met_none rfl) (fun a W hH => ?_) ?_
    · have e0 := Flow.see_new 10 7 hH.sees (by kernel_rfl) (by kernel_rfl) rfl rfl
      have e1 := Flow.see_new 25 22 hH.sees (by kernel_rfl) (by kernel_rfl) rfl rfl
      go_simp; first | done | rfl
    refine Flow.pass_copy 26 23 (Flow.met_none rfl) (.inr rfl) (by kernel_rfl) (by kernel_rfl) rfl rfl (fun _ _ => Flow.kept_eqs _ _) ?_
    refine Flow.pass_end [none, none, some 2, some 3, some 4, some 5, some 6, some 7, some 8, some 9, some 10, some 11, some 12, some 13, some 14, some 15, some 16, some 17, some 18, some 19, some 20, some 21, some 22, some 23, some 24, some 25, some 26] (by kernel_rfl) ?_
    intro f gg w9 hB hfa hT hfg
    have h2 : f 2 = _ := (hfg 2 24 (by kernel_rfl)).trans (hT 24 _ (by kernel_rfl) rfl)
    have B := ((Below.refl w.heap.size w).drew).trans hB
    simp only [Reg.sel, h2]
    clear hT hfg hfa
    go_wp2
    go_ret
    exact ⟨rfl, B⟩
  · have hdv : decide (0 < g.wn ∧ h.size ≤ g.wsz) = false := decide_eq_false (fun z => h0 z.1)
    rw [hdv]
    clear hdv
    go_enter Tryz.func37, Tryz.ntmps37
    go_wp2_with fail
    refine Flow.wp_region_flow (w.heap.size) [] [] (by kernel_rfl) (by kernel_rfl) (Nat.le_refl _) (fun _ h => by cases h) Flow.facts_nil ?_
    refine Flow.pass_old (X := .pointer (some ⟨x, 0, none⟩)) 0 (Flow.met_none rfl) (.inl rfl) (by kernel_rfl) (by kernel_rfl) rfl ?_
    refine Flow.pass_val (.pointer (some ⟨x, 0, none⟩)) (Flow.met_none rfl) (fun a W hH => ?_) ?_
    · have e0 := Flow.see_new 3 0 hH.sees (by kernel_rfl) (by kernel_rfl) rfl rfl
      go_simp; first | done | rfl
    refine Flow.pass_val (.pointer (some ⟨x, 0, none⟩)) (Flow.met_none rfl) (fun a W hH => ?_) ?_
    · have e0 := Flow.see_new 4 1 hH.sees (by kernel_rfl) (by kernel_rfl) rfl rfl
      go_simp; first | done | rfl
    refine Flow.pass_val (.pointer (some ⟨x, 75, none⟩)) (Flow.met_none rfl) (fun a W hH => ?_) ?_
    · have e0 := Flow.see_new 5 2 hH.sees (by kernel_rfl) (by kernel_rfl) rfl rfl
      go_simp; first | done | rfl
    refine Flow.pass_val (.slice g.wA g.wn g.wc) (Flow.met_none rfl) (fun a W hH => ?_) ?_
    · have e0 := Flow.see_new 6 3 hH.sees (by kernel_rfl) (by kernel_rfl) rfl rfl
      have cc := Lk.win (hL.drew.below hH.below hL.lt : Lk W x g h _ _ _) hk; go_simp; first | done | rfl
    refine Flow.pass_val (.int .i64 (g.wn : Int)) (Flow.met_none rfl) (fun a W hH => ?_) ?_
    · have e0 := Flow.see_new 7 4 hH.sees (by kernel_rfl) (by kernel_rfl) rfl rfl
      go_simp; first | done | rfl
    refine Flow.pass_val (.bool false) (Flow.met_none rfl) (fun a W hH => ?_) ?_
    · have e0 := Flow.see_new 8 5 hH.sees (by kernel_rfl) (by kernel_rfl) rfl rfl
      go_simp; first | done | rfl | (simp; omega)
    refine Flow.pass_copy 9 6 (Flow.met_none rfl) (.inl rfl) (by kernel_rfl) (by kernel_rfl) rfl rfl (fun _ _ => Flow.kept_eqs _ _) ?_
    refine Flow.pass_skip (fun a W hH => Flow.not_wanted 7 true 10 hH rfl rfl (by kernel_rfl) (by kernel_rfl) rfl rfl) ?_
    refine Flow.pass_skip (fun a W hH => Flow.not_wanted 7 true 10 hH rfl rfl (by kernel_rfl) (by kernel_rfl) rfl rfl) ?_
    refine Flow.pass_skip (fun a W hH => Flow.not_wanted 7 true 10 hH rfl rfl (by kernel_rfl) (by kernel_rfl) rfl rfl) ?_
    refine Flow.pass_skip (fun a W hH => Flow.not_wanted 7 true 10 hH rfl rfl (by kernel_rfl) (by kernel_rfl) rfl rfl) ?_
    refine Flow.pass_skip (fun a W hH => Flow.not_wanted 7 true 10 hH rfl rfl (by kernel_rfl) (by kernel_rfl) rfl rfl) ?_
    refine Flow.pass_skip (fun a W hH => Flow.not_wanted 7 true 10 hH rfl rfl (by kernel_rfl) (by kernel_rfl) rfl rfl) ?_
    refine Flow.pass_skip (fun a W hH => Flow.not_wanted 7 true 10 hH rfl rfl (by kernel_rfl) (by kernel_rfl) rfl rfl) ?_
    refine Flow.pass_skip (fun a W hH => Flow.not_wanted 7 true 10 hH rfl rfl (by kernel_rfl) (by kernel_rfl) rfl rfl) ?_
    refine Flow.pass_skip (fun a W hH => Flow.not_wanted 7 true 10 hH rfl rfl (by kernel_rfl) (by kernel_rfl) rfl rfl) ?_
    refine Flow.pass_skip (fun a W hH => Flow.not_wanted 7 true 10 hH rfl rfl (by kernel_rfl) (by kernel_rfl) rfl rfl) ?_
    refine Flow.pass_skip (fun a W hH => Flow.not_wanted 7 true 10 hH rfl rfl (by kernel_rfl) (by kernel_rfl) rfl rfl) ?_
    refine Flow.pass_skip (fun a W hH => Flow.not_wanted 7 true 10 hH rfl rfl (by kernel_rfl) (by kernel_rfl) rfl rfl) ?_
    refine Flow.pass_skip (fun a W hH => Flow.not_wanted 7 true 10 hH rfl rfl (by kernel_rfl) (by kernel_rfl) rfl rfl) ?_
    refine Flow.pass_skip (fun a W hH => Flow.not_wanted 7 true 10 hH rfl rfl (by kernel_rfl) (by kernel_rfl) rfl rfl) ?_
    refine Flow.pass_skip (fun a W hH => Flow.not_wanted 7 true 10 hH rfl rfl (by kernel_rfl) (by kernel_rfl) rfl rfl) ?_
    refine Flow.pass_val (.bool false) (Flow.met_none rfl) (fun a W hH => ?_) ?_
    · have e0 := Flow.see_new 10 7 hH.sees (by kernel_rfl) (by kernel_rfl) rfl rfl
      have e1 := Flow.see_new 25 22 hH.sees (by kernel_rfl) (by kernel_rfl) rfl rfl
      go_simp; first | done | rfl
    refine Flow.pass_copy 26 23 (Flow.met_none rfl) (.inr rfl) (by kernel_rfl) (by kernel_rfl) rfl rfl (fun _ _ => Flow.kept_eqs _ _) ?_
    refine Flow.pass_end [none, none, some 2, some 3, some 4, some 5, some 6, some 7, some 8, some 9, some 10, some 11, some 12, some 13, some 14, some 15, some 16, some 17, some 18, some 19, some 20, some 21, some 22, some 23, some 24, some 25, some 26] (by kernel_rfl) ?_
    intro f gg w9 hB hfa hT hfg
    have h2 : f 2 = _ := (hfg 2 24 (by kernel_rfl)).trans (hT 24 _ (by kernel_rfl) rfl)
    have B := ((Below.refl w.heap.size w).drew).trans hB
    simp only [Reg.sel, h2]
    clear hT hfg hfa
    go_wp2
    go_ret
    exact ⟨rfl, B⟩
set_option maxRecDepth 100000 in
theorem c5_any (S1 S2 S3 : Value) (hv : Blk w v 80 #[.pointer (some ⟨x, 0, none⟩)]) (hL : Lk w x g h S1 S2 S3) (ok : g.ok w w.heap.size) (hs : h.size < 4294967296) :
    Calls Tryz.prog 36 #[.pointer (some ⟨v, 0, none⟩)] w fun e w' => e = .returned (.int .i64 (if 0 < g.wn ∧ h.size ≤ g.wsz then 0 else 261)) ∧ Below w.heap.size w w' := by
  have cv : w.cell? ⟨v, 0, none⟩ = some (.pointer (some ⟨x, 0, none⟩)) := (hv.cell 0).trans rfl
  have hfit := fits_any S1 S2 S3 hL ok hs
  have e : (if 0 < g.wn ∧ h.size ≤ g.wsz then (0 : Int) else 261) = if decide (0 < g.wn ∧ h.size ≤ g.wsz) = true then 0 else 261 := by simp
  rw [e]
  generalize decide (0 < g.wn ∧ h.size ≤ g.wsz) = D at hfit ⊢
  clear hv hL ok e
  obtain ⟨Z, hZ⟩ : ∃ Z, (if D = true then (0 : Int) else 261) = Z := ⟨_, rfl⟩
  rw [hZ]
  have HZ := Lib.hid hZ
  clear hZ
  go_enter Tryz.func36, Tryz.ntmps36
  go_wp2_with fail
  refine Calls.mono hfit ?_
  rintro e w1 ⟨rfl, hB1⟩
  go_wp2_with fail
  have hu := unless_any D 261 w1
  rw [HZ.out] at hu
  refine Calls.mono hu ?_
  rintro e w2 ⟨rfl, rfl⟩
  go_wp2
  go_ret
  exact ⟨rfl, hB1⟩
set_option maxRecDepth 100000 in
theorem c6_any (y : Nat) (c : Ctr) (hc : Blk w y 34 c.cells) :
    Calls Tryz.prog 38 #[.pointer (some ⟨y, 0, none⟩)] w fun e w' => e = .returned (.int .i64 (if c.err = 0 then 0 else 263)) ∧ Below w.heap.size w w' := by
  have cy : w.cell? ⟨y, 1, none⟩ = some (.int .i64 c.err) := (hc.cell 1).trans rfl
  have e : (if c.err = 0 then (0 : Int) else 263) = if (c.err == 0) = true then 0 else 263 := by simp
  rw [e]
  clear hc e
  obtain ⟨Z, hZ⟩ : ∃ Z, (if (c.err == 0) = true then (0 : Int) else 263) = Z := ⟨_, rfl⟩
  rw [hZ]
  have HZ := Lib.hid hZ
  clear hZ
  go_enter Tryz.func38, Tryz.ntmps38
  go_wp2_with fail
  have hu := unless_any (c.err == 0) 263 w
  rw [HZ.out] at hu
  refine Calls.mono hu ?_
  rintro e w2 ⟨rfl, rfl⟩
  go_wp2
  go_ret
  exact ⟨rfl, Below.refl _ _⟩
set_option maxRecDepth 100000 in
set_option maxHeartbeats 1000000 in
theorem c7_any (y : Nat) (c : Ctr) (S1 S2 S3 : Value) (hv : Blk w v 80 #[.pointer (some ⟨x, 0, none⟩)]) (hL : Lk w x g h S1 S2 S3) (hk : g.key.length = 68) (hc : Blk w y 34 c.cells) :
    Calls Tryz.prog 39 #[.pointer (some ⟨v, 0, none⟩), .pointer (some ⟨y, 0, none⟩)] w fun e w' => e = .returned (.int .i64 (if c.val ≤ h.ver then 0 else 260)) ∧ Below w.heap.size w w' := by
  obtain ⟨Z, hZ⟩ : ∃ Z, (if c.val ≤ h.ver then (0 : Int) else 260) = Z := ⟨_, rfl⟩
  rw [hZ]
  have HZ := Lib.hid hZ
  clear hZ
  go_enter Tryz.func39, Tryz.ntmps39
  go_wp2_with fail
  refine Flow.wp_region_flow (w.heap.size) [] [] (by kernel_rfl) (by kernel_rfl) (Nat.le_refl _) (fun _ h => by cases h) Flow.facts_nil ?_
  refine Flow.pass_val (.pointer (some ⟨x, 0, none⟩)) (Flow.met_none rfl) (fun a W hH => ?_) ?_
  · have e0 := Flow.see_old 0 hH.sees (by kernel_rfl) (by kernel_rfl) rfl
    have cc : World.cell? W ⟨v, 0, none⟩ = some (.pointer (some ⟨x, 0, none⟩)) := ((hv.drew.below hH.below hv.lt).cell 0).trans rfl; go_simp; first | done | rfl
  refine Flow.pass_val (.pointer (some ⟨x, 0, none⟩)) (Flow.met_none rfl) (fun a W hH => ?_) ?_
  · have e0 := Flow.see_new 3 0 hH.sees (by kernel_rfl) (by kernel_rfl) rfl rfl
    go_simp; first | done | rfl
  refine Flow.pass_val (.pointer (some ⟨x, 79, none⟩)) (Flow.met_none rfl) (fun a W hH => ?_) ?_
  · have e0 := Flow.see_new 4 1 hH.sees (by kernel_rfl) (by kernel_rfl) rfl rfl
    go_simp; first | done | rfl
  refine Flow.pass_val (.pointer (some ⟨x, 79, none⟩)) (Flow.met_none rfl) (fun a W hH => ?_) ?_
  · have e0 := Flow.see_new 5 2 hH.sees (by kernel_rfl) (by kernel_rfl) rfl rfl
    go_simp; first | done | rfl
  refine Flow.pass_val (.int .u32 (h.ver : Int)) (Flow.met_none rfl) (fun a W hH => ?_) ?_
  · have e0 := Flow.see_new 6 3 hH.sees (by kernel_rfl) (by kernel_rfl) rfl rfl
    have cc := Lk.ver (hL.drew.below hH.below hL.lt : Lk W x g h _ _ _) hk; go_simp; first | done | rfl
  refine Flow.pass_val (.pointer (some ⟨y, 0, none⟩)) (Flow.met_none rfl) (fun a W hH => ?_) ?_
  · have e0 := Flow.see_old 1 hH.sees (by kernel_rfl) (by kernel_rfl) rfl
    go_simp; first | done | rfl
  refine Flow.pass_val (.int .u32 (c.val : Int)) (Flow.met_none rfl) (fun a W hH => ?_) ?_
  · have e0 := Flow.see_new 8 5 hH.sees (by kernel_rfl) (by kernel_rfl) rfl rfl
    have cc : World.cell? W ⟨y, 0, none⟩ = some (.int .u32 (c.val : Int)) := ((hc.drew.below hH.below hc.lt).cell 0).trans rfl; go_simp; first | done | rfl
  refine Flow.pass_val (.bool (decide ((c.val : Int) ≤ (h.ver : Int)))) (Flow.met_none rfl) (fun a W hH => ?_) ?_
  · have e0 := Flow.see_new 7 4 hH.sees (by kernel_rfl) (by kernel_rfl) rfl rfl
    have e1 := Flow.see_new 9 6 hH.sees (by kernel_rfl) (by kernel_rfl) rfl rfl
    go_simp; first | done | rfl
  refine Flow.pass_step (Reg.eqs (.int .i64 (if (decide ((c.val : Int) ≤ (h.ver : Int))) = true then 0 else 260))) (fun _ _ => Flow.kept_eqs _ _) (Flow.met_none rfl) (fun a W hH => ?_) ?_
  · have e0 := Flow.see_new 10 7 hH.sees (by kernel_rfl) (by kernel_rfl) rfl rfl
    refine Reg.wp_call rfl Tryz.func33 rfl (by kernel_rfl) (by simp [Act.eval, e0]) (unless_any (decide ((c.val : Int) ≤ (h.ver : Int))) 260 W) ?_
    rintro e w' ⟨rfl, rfl⟩
    exact ⟨_, rfl, _, rfl, Ext.refl _, rfl⟩
  refine Flow.pass_copy 11 8 (Flow.met_none rfl) (.inr rfl) (by kernel_rfl) (by kernel_rfl) rfl rfl (fun _ _ => Flow.kept_eqs _ _) ?_
  refine Flow.pass_end [none, none, some 2, some 3, some 4, some 5, some 6, some 7, some 8, some 9, some 10, some 11] (by kernel_rfl) ?_
  intro f gg w9 hB hfa hT hfg
  have h2 : f 2 = _ := (hfg 2 9 (by kernel_rfl)).trans (hT 9 _ (by kernel_rfl) rfl)
  have B := ((Below.refl w.heap.size w).drew).trans hB
  have e : (if (decide ((c.val : Int) ≤ (h.ver : Int))) = true then (0 : Int) else 260) = if c.val ≤ h.ver then 0 else 260 := by simp
  rw [e, HZ.out] at h2
  clear e
  simp only [Reg.sel, h2]
  clear hT hfg hfa
  go_wp2
  go_ret
  exact ⟨rfl, B⟩
end Go.Proofs.YtipdmhppadapkaaGreatDoor
