/-
  Walks: portreeveref04.F, H.
-/
import Derived.Test.YtapkhafgfbhkkaaDoorPrfB
import Derived.ArgAppend
namespace Go.Proofs.YtapkhafgfbhkkaaDoor
open Go.RowKit Sha

section
variable {P : Program} {ops : Array Oper} {rest : List Oper} {o : Oper} {a : Act} {Q : Exit → Act → World → Prop}
/-- append(s, x...) onto a slice that is full: a new row -/
theorem wpList_appFull (w : World) {t e : TypeId} {z : Value} {bytes : Nat} (E : Elem P t e z 1 bytes) (hgd : o.guard = none) (s x : Operand)
    (ho : o.op = .call { callee := .builtin .append, args := #[s, x], argTypes := #[t, t] })
    (B1 : Nat) (ad1 : Addr) (n : Nat) (olds : List Value) (hs : a.eval s = .slice (some ad1) n n) (hr1 : Rd w B1 1 (some ad1) n olds)
    (B2 : Nat) (ad2 : Addr) (m c2 : Nat) (news : List Value) (hx : a.eval x = .slice (some ad2) m c2) (hr2 : Rd w B2 1 (some ad2) m news) (h1 : ∀ u ∈ news, u.oneCell' = true)
    (hm : 0 < m) (h63 : n + m ≤ 9223372036854775807) (hbytes : (n + m) * bytes ≤ 140737488355328)
    (h : ∀ A' c' w', w'.ownsRow w.heap.size e 1 (.slice A' (n + m) c') (n + m) (olds ++ news) → Ext w w' → wpList P ops Q rest (a.put o.dst (.slice A' (n + m) c')) w') : wpList P ops Q (o :: rest) a w := by
  obtain ⟨i, hi, hz, h4, h5⟩ := E.info
  refine wpList_append_grows w hgd s x t ho e i z 1 bytes E.under hi hz h4 h5 E.zs E.pos (some ad1) n n olds hs (fun h => by cases h) (by rw [hr1.len]) (fun b hb j u hu => ?_) ad2 m c2 news hx (by rw [hr2.len]) (fun j u hu => ?_) h1 (by omega) (by simp only [maxLen]; omega) hbytes ?_
  · cases hb
    obtain ⟨a', e', _, hc⟩ := hr1.cell j u hu
    cases e'; exact hc
  · obtain ⟨a', e', _, hc⟩ := hr2.cell j u hu
    cases e'; exact hc
  · intro v' w' h2 h3
    have hex : ∃ A' c', v' = .slice A' (n + m) c' := by
      rcases h2.2 with ⟨e1, e2⟩ | ⟨g, cap, cur, e1, _⟩
      · omega
      · exact ⟨_, _, e1⟩
    obtain ⟨A', c', rfl⟩ := hex
    exact h A' c' w' h2 ((Chg.grown (Z := fun _ => False) h3 (by rintro k hk; cases hk)).ext)
end
set_option maxHeartbeats 1000000 in
theorem rf_any (k m : List UInt8) (hk' : k.length = 32) (hm' : m.length = 32) (w : World) :
    Calls Tryd.prog 18 #[.agg (bcells k).toArray, .agg (bcells m).toArray] w fun e w' => e = .returned (.agg (bcells (fH k m)).toArray) ∧ Below w.heap.size w w' := by
  have hz := zeroNode
  have hk := Lib.hid hk'
  have hm := Lib.hid hm'
  clear hk' hm'
  obtain ⟨S, hS⟩ : ∃ S, S = fH k m := ⟨_, rfl⟩
  rw [← hS]
  have HSl : Hid (S.length = 32) := Lib.hid (by rw [hS]; exact keyed_length _ _)
  have hSe : Hid (keyed 0 (k ++ m) = S) := Lib.hid (by rw [hS]; rfl)
  have hA0 := (((Blk.new w 27 (bcells k).toArray).alloc (.cells (bcells m).toArray 27)).alloc (.cells zn 27))
  have hC0 := (blk_new1 w (.cells (bcells k).toArray 27) 27 (bcells m).toArray).alloc (.cells zn 27)
  have hN := blk_new2 w (.cells (bcells k).toArray 27) (.cells (bcells m).toArray 27) 27 zn
  have hB : Below w.heap.size w (((w.alloc (.cells (bcells k).toArray 27)).alloc (.cells (bcells m).toArray 27)).alloc (.cells zn 27)) := (((Below.refl _ _).alloc (Nat.le_refl _) _).alloc (by simp) _).alloc (by simp; omega) _
  go_enter Tryd.func18, Tryd.ntmps18
  go_wp2_with fail
  generalize ((w.alloc (.cells (bcells k).toArray 27)).alloc (.cells (bcells m).toArray 27)).alloc (.cells zn 27) = W0 at *
  have hsz : w.heap.size + 2 ≤ W0.drew.heap.size := Nat.le_of_lt hN.lt
  have hsz0 : w.heap.size ≤ W0.drew.heap.size := by omega
  clear hS hz
  refine Flow.wp_region_flow (w.heap.size) [(4, fun b => b = w.heap.size + 2)] [(2, fun W => Blk W w.heap.size 27 ((bcells k).toArray)), (2, fun W => Blk W (w.heap.size + 1) 27 ((bcells m).toArray)), (4, fun W => Blk W (w.heap.size + 2) 27 (zn))] (by kernel_rfl) (by kernel_rfl) hsz0 (Flow.nz_cons (by rintro b rfl; omega) Flow.nz_nil) (Flow.facts_cons (hA0.drew) (Flow.kept_blk id) (Flow.fz_cons (Flow.no_follow (by kernel_rfl)) Flow.fz_nil) (Flow.facts_cons (hC0.drew) (Flow.kept_blk id) (Flow.fz_cons (Flow.no_follow (by kernel_rfl)) Flow.fz_nil) (Flow.facts_cons (hN.drew) (Flow.kept_blk id) (Flow.fz_cons (Flow.no_follow (by kernel_rfl)) Flow.fz_nil) Flow.facts_nil))) ?_
  refine Flow.pass_val (.slice (some ⟨w.heap.size, 0, none⟩) 32 32) (Flow.met_none rfl) (fun a W hH => ?_) ?_
  · have e0 := Flow.see_old 2 hH.sees (by kernel_rfl) (by kernel_rfl) rfl
    go_simp; first | done | rfl
  refine Flow.pass_val (.slice (some ⟨w.heap.size + 1, 0, none⟩) 32 32) (Flow.met_none rfl) (fun a W hH => ?_) ?_
  · have e0 := Flow.see_old 3 hH.sees (by kernel_rfl) (by kernel_rfl) rfl
    go_simp; first | done | rfl
  refine Flow.pass_linlist [4] (fun v W => ∃ A c, v = .slice A (32 + 32) c ∧ Rd W W.heap.size 1 A (32 + 32) (bcells (k ++ m))) (Flow.kept_lin [4] (fun _ _ _ c ⟨A, k, h1, h2⟩ => ⟨A, k, h1, h2.ext c.ext⟩) (Flow.lz_cons (fun _ => .inl rfl) Flow.lz_nil)) (Flow.met_none rfl) (fun a W hH => ?_) ?_
  · have e0 := Flow.see_new 5 0 hH.sees (by kernel_rfl) (by kernel_rfl) rfl rfl
    have e1 := Flow.see_new 6 1 hH.sees (by kernel_rfl) (by kernel_rfl) rfl rfl
    have fa0 : (fun W => Blk W w.heap.size 27 ((bcells k).toArray)) W := hH.fact _ (List.mem_of_getElem? (i := 0) rfl) rfl
    have fa1 : (fun W => Blk W (w.heap.size + 1) 27 ((bcells m).toArray)) W := hH.fact _ (List.mem_of_getElem? (i := 1) rfl) rfl
    refine wpList_appFull W el8 rfl _ _ rfl W.heap.size ⟨w.heap.size, 0, none⟩ 32 (bcells k) (by simpa [Act.eval] using e0) (fa0.rd (by simp [bcells_length, hk.out])) W.heap.size ⟨w.heap.size + 1, 0, none⟩ 32 32 (bcells m) (by simpa [Act.eval] using e1) (fa1.rd (by simp [bcells_length, hm.out])) (bcells_one m) (by omega) (by omega) (by omega) ?_
    intro A' c' W2 hO2 hE
    exact Flow.qq_nil ⟨_, rfl, Chg.of_ext hE, A', c', rfl, by rw [bcells_append]; exact Rd.of_own hO2⟩
  refine Flow.pass_step (Reg.eqs (.agg (bcells S).toArray)) (fun _ _ => Flow.kept_eqs _ _) (Flow.met_none rfl) (fun a W hH => ?_) ?_
  · obtain ⟨A0, c0, e0, q0⟩ := Flow.see_lin 7 2 hH.sees (by kernel_rfl) (by kernel_rfl) rfl rfl (by kernel_rfl)
    refine Reg.wp_call rfl Tryd.func15 rfl (by kernel_rfl) (by simp [Act.eval, e0]) (rkeyed_any 0 (by decide) A0 (32 + 32) c0 (k ++ m) W q0 (by omega)) ?_
    rintro e w' ⟨rfl, hB⟩
    rw [hSe.out]
    exact ⟨_, rfl, _, rfl, hB, rfl⟩
  refine Flow.pass_list (fun _ W => Blk W (w.heap.size + 2) 27 (bcells S).toArray) (Flow.kept_of (fun _ _ _ c h => h.chg c id) (Flow.kz_cons (Flow.no_follow (by kernel_rfl)) Flow.kz_nil)) (Flow.met_none rfl) (fun a W hH => ?_) ?_
  · have e0 := Flow.see_old 4 hH.sees (by kernel_rfl) (by kernel_rfl) rfl
    have e1 := Flow.see_new 8 3 hH.sees (by kernel_rfl) (by kernel_rfl) rfl rfl
    have fa2 : (fun W => Blk W (w.heap.size + 2) 27 (zn)) W := hH.fact _ (List.mem_of_getElem? (i := 2) rfl) rfl
    refine wpList_storeAll W rfl 27 _ _ rfl (w.heap.size + 2) 27 _ (bcells S).toArray fa2 (by simpa [Act.eval] using e0) (by simpa [Act.eval] using e1) (by rw [List.size_toArray, bcells_length, HSl.out]; kernel_rfl) (by rw [List.size_toArray, bcells_length, HSl.out]; kernel_rfl) (fun v hv => bcells_one _ v (by simpa using hv)) ?_
    intro W2 h2 hg _
    exact Flow.qq_nil ⟨_, rfl, Chg.grown hg (by rintro k h; cases h; rfl), h2⟩
  refine Flow.pass_end [none, none, none, none, none, some 5, some 6, some 7, some 8] (by kernel_rfl) ?_
  intro f gg w9 hB9 hfa hT' hfg
  have h4 := hT' 4 _ (by kernel_rfl) rfl
  have hBw9 := hB.drew.trans (hB9)
  clear hfa hT' hfg hB hB9 hN
  simp only [Reg.sel]
  go_wp2
  refine bodyPost_ret (results_cell_row rfl _ _ (w.heap.size + 2) _ _ _ _ rfl h4 Tryd.underlying27 rfl (by rw [List.size_toArray, bcells_length, HSl.out]; kernel_rfl)) rfl ⟨rfl, hBw9⟩

set_option maxHeartbeats 1000000 in
theorem rh_any (k l r : List UInt8) (hk : k.length = 32) (hl : l.length = 32) (hr : r.length = 32) (w : World) :
    Calls Tryd.prog 20 #[.agg (bcells k).toArray, .agg (bcells l).toArray, .agg (bcells r).toArray] w fun e w' => e = .returned (.agg (bcells (hH2 k l r)).toArray) ∧ Below w.heap.size w w' := by
  have hz := zeroNode
  obtain ⟨S, hS⟩ : ∃ S, S = hH2 k l r := ⟨_, rfl⟩
  rw [← hS]
  have HSl : Hid (S.length = 32) := Lib.hid (by rw [hS]; exact keyed_length _ _)
  have hSe : Hid (keyed 1 ([] ++ k ++ l ++ r) = S) := Lib.hid (by rw [hS]; rfl)
  have hA0 := (((Blk.new w 27 (bcells k).toArray).alloc (.cells (bcells l).toArray 27)).alloc (.cells (bcells r).toArray 27)).alloc (.cells zn 27)
  have hC0 := ((blk_new1 w (.cells (bcells k).toArray 27) 27 (bcells l).toArray).alloc (.cells (bcells r).toArray 27)).alloc (.cells zn 27)
  have hD0 := (blk_new2 w (.cells (bcells k).toArray 27) (.cells (bcells l).toArray 27) 27 (bcells r).toArray).alloc (.cells zn 27)
  have hN := blk_new3 w (.cells (bcells k).toArray 27) (.cells (bcells l).toArray 27) (.cells (bcells r).toArray 27) 27 zn
  have hB : Below w.heap.size w ((((w.alloc (.cells (bcells k).toArray 27)).alloc (.cells (bcells l).toArray 27)).alloc (.cells (bcells r).toArray 27)).alloc (.cells zn 27)) := ((((Below.refl _ _).alloc (Nat.le_refl _) _).alloc (by simp) _).alloc (by simp; omega) _).alloc (by simp; omega) _
  go_enter Tryd.func20, Tryd.ntmps20
  go_wp2_with fail
  generalize (((w.alloc (.cells (bcells k).toArray 27)).alloc (.cells (bcells l).toArray 27)).alloc (.cells (bcells r).toArray 27)).alloc (.cells zn 27) = W0 at *
  have hsz : w.heap.size + 3 ≤ W0.drew.heap.size := Nat.le_of_lt hN.lt
  have hA : Rd W0.drew (w.heap.size + 3) 1 (some ⟨w.heap.size, 0, none⟩) 32 (bcells k) := (hA0.drew.rdB 32 (by simp [bcells_length, hk]) (by omega))
  have hC : Rd W0.drew (w.heap.size + 3) 1 (some ⟨w.heap.size + 1, 0, none⟩) 32 (bcells l) := (hC0.drew.rdB 32 (by simp [bcells_length, hl]) (by omega))
  have hD : Rd W0.drew (w.heap.size + 3) 1 (some ⟨w.heap.size + 2, 0, none⟩) 32 (bcells r) := (hD0.drew.rdB 32 (by simp [bcells_length, hr]) (by omega))
  have hsz3 : w.heap.size + 3 ≤ W0.drew.heap.size := hsz
  have hsz : w.heap.size + 4 ≤ W0.drew.heap.size := hN.lt
  clear hS hz hA0 hC0 hD0
  refine Flow.wp_region_flow (w.heap.size + 3) [(3, fun b => w.heap.size + 4 ≤ b), (5, fun b => w.heap.size + 4 ≤ b), (7, fun b => b = w.heap.size + 3)] [(7, fun W => Blk W (w.heap.size + 3) 27 (zn))] (by kernel_rfl) (by kernel_rfl) hsz3 (Flow.nz_cons (fun b h => by have h2 : w.heap.size + 4 ≤ b := h; omega) (Flow.nz_cons (fun b h => by have h2 : w.heap.size + 4 ≤ b := h; omega) (Flow.nz_cons (by rintro b rfl; omega) Flow.nz_nil))) (Flow.facts_cons (hN.drew) (Flow.kept_blk id) (Flow.fz_cons (fun _ => Flow.kept_blk (by first | assumption | (show ¬ _ = _; first | assumption | omega | (simp; omega)) | (show ¬ (_ ≤ _); omega))) (Flow.fz_cons (fun _ => Flow.kept_blk (by first | assumption | (show ¬ _ = _; first | assumption | omega | (simp; omega)) | (show ¬ (_ ≤ _); omega))) (Flow.fz_cons (Flow.no_follow (by kernel_rfl)) Flow.fz_nil))) Flow.facts_nil) ?_
  refine Flow.pass_val (.slice (some ⟨w.heap.size, 0, none⟩) 32 32) (Flow.met_none rfl) (fun a W hH => ?_) ?_
  · have e0 := Flow.see_old 3 hH.sees (by kernel_rfl) (by kernel_rfl) rfl
    go_simp; first | done | rfl
  refine Flow.pass_linlist [3, 5, 7] (fun v W => ∃ A c, v = .slice A (0 + 32) c ∧ W.ownsRow (w.heap.size + 4) 5 1 (.slice A (0 + 32) c) (0 + 32) (bcells ([] ++ k))) (Flow.kept_lin [3, 5, 7] (fun _ _ _ c ⟨A, k, h1, h2⟩ => ⟨A, k, h1, own_chg h2 c (fun _ _ => id)⟩) (Flow.lz_cons (fun _ => .inl rfl) (Flow.lz_cons (fun _ => .inl rfl) (Flow.lz_cons (fun _ => .inl rfl) Flow.lz_nil)))) (Flow.met_none rfl) (fun a W hH => ?_) ?_
  · have e0 := Flow.see_new 7 0 hH.sees (by kernel_rfl) (by kernel_rfl) rfl rfl
    refine wpList_app W el8 rfl _ _ rfl (w.heap.size + 4) none 0 0 _ (by simp [Act.eval]) (own_nil _ _ _ _) (w.heap.size + 3) (some ⟨w.heap.size, 0, none⟩) 32 32 (bcells k) (by simpa [Act.eval] using e0) (hA.below hH.below) (bcells_one k) (by omega) (by omega) (Nat.le_trans hsz hH.below.size) ?_
    intro A' c' W2 hO2 hg hB _
    exact Flow.qq_nil ⟨_, rfl, Chg.of_ext (Chg.grown (Z := fun _ => False) hg (by rintro j h; cases h)).ext, A', c', rfl, hO2⟩
  refine Flow.pass_val (.slice (some ⟨w.heap.size + 1, 0, none⟩) 32 32) (Flow.met_none rfl) (fun a W hH => ?_) ?_
  · have e0 := Flow.see_old 4 hH.sees (by kernel_rfl) (by kernel_rfl) rfl
    go_simp; first | done | rfl
  refine Flow.pass_linlist [5, 7] (fun v W => ∃ A c, v = .slice A (0 + 32 + 32) c ∧ W.ownsRow (w.heap.size + 4) 5 1 (.slice A (0 + 32 + 32) c) (0 + 32 + 32) (bcells ([] ++ k ++ l))) (Flow.kept_lin [5, 7] (fun _ _ _ c ⟨A, k, h1, h2⟩ => ⟨A, k, h1, own_chg h2 c (fun _ _ => id)⟩) (Flow.lz_cons (Flow.no_follow (by kernel_rfl)) (Flow.lz_cons (fun _ => .inl rfl) (Flow.lz_cons (fun _ => .inl rfl) Flow.lz_nil)))) (Flow.met_none rfl) (fun a W hH => ?_) ?_
  · obtain ⟨A0, c0, e0, q0⟩ := Flow.see_lin 8 1 hH.sees (by kernel_rfl) (by kernel_rfl) rfl rfl (by kernel_rfl)
    have e1 := Flow.see_new 9 2 hH.sees (by kernel_rfl) (by kernel_rfl) rfl rfl
    refine wpList_app W el8 rfl _ _ rfl (w.heap.size + 4) A0 (0 + 32) c0 _ (by simpa [Act.eval] using e0) q0 (w.heap.size + 3) (some ⟨w.heap.size + 1, 0, none⟩) 32 32 (bcells l) (by simpa [Act.eval] using e1) (hC.below hH.below) (bcells_one l) (by omega) (by omega) (Nat.le_trans hsz hH.below.size) ?_
    intro A' c' W2 hO2 hg hB _
    exact Flow.qq_nil ⟨_, rfl, Chg.of_below hB (fun k hk _ => hk), A', c', rfl, by rw [bcells_append]; exact hO2⟩
  refine Flow.pass_val (.slice (some ⟨w.heap.size + 2, 0, none⟩) 32 32) (Flow.met_none rfl) (fun a W hH => ?_) ?_
  · have e0 := Flow.see_old 5 hH.sees (by kernel_rfl) (by kernel_rfl) rfl
    go_simp; first | done | rfl
  refine Flow.pass_linlist [7] (fun v W => ∃ A c, v = .slice A (0 + 32 + 32 + 32) c ∧ W.ownsRow (w.heap.size + 4) 5 1 (.slice A (0 + 32 + 32 + 32) c) (0 + 32 + 32 + 32) (bcells ([] ++ k ++ l ++ r))) (Flow.kept_lin [7] (fun _ _ _ c ⟨A, k, h1, h2⟩ => ⟨A, k, h1, own_chg h2 c (fun _ _ => id)⟩) (Flow.lz_cons (Flow.no_follow (by kernel_rfl)) (Flow.lz_cons (Flow.no_follow (by kernel_rfl)) (Flow.lz_cons (fun _ => .inl rfl) Flow.lz_nil)))) (Flow.met_none rfl) (fun a W hH => ?_) ?_
  · obtain ⟨A0, c0, e0, q0⟩ := Flow.see_lin 10 3 hH.sees (by kernel_rfl) (by kernel_rfl) rfl rfl (by kernel_rfl)
    have e1 := Flow.see_new 11 4 hH.sees (by kernel_rfl) (by kernel_rfl) rfl rfl
    refine wpList_app W el8 rfl _ _ rfl (w.heap.size + 4) A0 (0 + 32 + 32) c0 _ (by simpa [Act.eval] using e0) q0 (w.heap.size + 3) (some ⟨w.heap.size + 2, 0, none⟩) 32 32 (bcells r) (by simpa [Act.eval] using e1) (hD.below hH.below) (bcells_one r) (by omega) (by omega) (Nat.le_trans hsz hH.below.size) ?_
    intro A' c' W2 hO2 hg hB _
    exact Flow.qq_nil ⟨_, rfl, Chg.of_below hB (fun k hk _ => hk), A', c', rfl, by rw [bcells_append]; exact hO2⟩
  refine Flow.pass_step (Reg.eqs (.agg (bcells S).toArray)) (fun _ _ => Flow.kept_eqs _ _) (Flow.met_none rfl) (fun a W hH => ?_) ?_
  · obtain ⟨A0, c0, e0, q0⟩ := Flow.see_lin 12 5 hH.sees (by kernel_rfl) (by kernel_rfl) rfl rfl (by kernel_rfl)
    refine Reg.wp_call rfl Tryd.func15 rfl (by kernel_rfl) (by simp [Act.eval, e0]) (rkeyed_any 1 (by decide) A0 (0 + 32 + 32 + 32) c0 ([] ++ k ++ l ++ r) W (Rd.of_own q0) (by omega)) ?_
    rintro e w' ⟨rfl, hB⟩
    rw [hSe.out]
    exact ⟨_, rfl, _, rfl, hB, rfl⟩
  refine Flow.pass_list (fun _ W => Blk W (w.heap.size + 3) 27 (bcells S).toArray) (Flow.kept_of (fun _ _ _ c h => h.chg c id) (Flow.kz_cons (Flow.no_follow (by kernel_rfl)) (Flow.kz_cons (Flow.no_follow (by kernel_rfl)) (Flow.kz_cons (Flow.no_follow (by kernel_rfl)) Flow.kz_nil)))) (Flow.met_none rfl) (fun a W hH => ?_) ?_
  · have e0 := Flow.see_old 6 hH.sees (by kernel_rfl) (by kernel_rfl) rfl
    have e1 := Flow.see_new 13 6 hH.sees (by kernel_rfl) (by kernel_rfl) rfl rfl
    have fa0 : (fun W => Blk W (w.heap.size + 3) 27 (zn)) W := hH.fact _ (List.mem_of_getElem? (i := 0) rfl) rfl
    refine wpList_storeAll W rfl 27 _ _ rfl (w.heap.size + 3) 27 _ (bcells S).toArray fa0 (by simpa [Act.eval] using e0) (by simpa [Act.eval] using e1) (by rw [List.size_toArray, bcells_length, HSl.out]; kernel_rfl) (by rw [List.size_toArray, bcells_length, HSl.out]; kernel_rfl) (fun v hv => bcells_one _ v (by simpa using hv)) ?_
    intro W2 h2 hg _
    exact Flow.qq_nil ⟨_, rfl, Chg.grown hg (by rintro k h; cases h; rfl), h2⟩
  refine Flow.pass_end [none, none, none, none, none, none, none, some 7, some 8, some 9, some 10, some 11, some 12, some 13] (by kernel_rfl) ?_
  intro f gg w9 hB9 hfa hT' hfg
  have h4 := hT' 7 _ (by kernel_rfl) rfl
  have hBw9 := hB.drew.trans (hB9.mono (by omega))
  clear hfa hT' hfg hB hB9 hN
  simp only [Reg.sel]
  go_wp2
  refine bodyPost_ret (results_cell_row rfl _ _ (w.heap.size + 3) _ _ _ _ rfl h4 Tryd.underlying27 rfl (by rw [List.size_toArray, bcells_length, HSl.out]; kernel_rfl)) rfl ⟨rfl, hBw9⟩
end Go.Proofs.YtapkhafgfbhkkaaDoor
