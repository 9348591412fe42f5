/-
  Walk: portreeveref29.Lines of a refused result.
-/
import Derived.Test.YtnjfghlgknnhmaaLinesG
namespace Go.Proofs.Ytnjfghlgknnhmaa
open Go.RowKit

/-- a list of lines in memory of its own -/
def Ls (G : Nat) (ls : List (List UInt8)) (v : Value) (w : World) : Prop := ∃ A c, v = .slice A ls.length c ∧ w.ownsRow G 9 1 (.slice A ls.length c) ls.length (ls.map strV)
theorem Ls.chg0 {G : Nat} {ls : List (List UInt8)} {v : Value} {w w' : World} (h : Ls G ls v w) (c : Chg (fun _ => False) w w') : Ls G ls v w' := by
  obtain ⟨A, k, h1, h2⟩ := h
  exact ⟨A, k, h1, own_chg h2 c (fun _ _ => id)⟩
theorem Ls.of {G : Nat} {ls : List (List UInt8)} {s : List UInt8} {A : Option Addr} {c : Nat} {w : World} (h : w.ownsRow G 9 1 (.slice A (ls.length + 1) c) (ls.length + 1) (ls.map strV ++ [strV s])) : Ls G (ls ++ [s]) (.slice A (ls.length + 1) c) w :=
  ⟨A, c, by rw [List.length_append]; rfl, by rw [List.length_append, List.map_append]; exact h⟩
theorem Ls.chgNew {G : Nat} {ls : List (List UInt8)} {v : Value} {w w' : World} (h : Ls G ls v w) (c : Chg (fun b => b = w.heap.size) w w') : Ls G ls v w' := by
  obtain ⟨A, k, h1, h2⟩ := h
  exact ⟨A, k, h1, own_chg h2 c (fun j hj e => by have := (own_some h2 hj).2; omega)⟩

set_option maxRecDepth 100000 in
set_option maxHeartbeats 4000000 in
theorem rLines_ref (C : Array Value) (A3 : Option Addr) (n3 c3' : Nat) (ctr : List (Nat × Int)) (hctr : Hid (ctr.length = n3)) (hcok : Hid (∀ r ∈ ctr, ctrOk r)) (hn3 : n3 ≤ 40) (l1 : List (List UInt8)) (x y z : Int) (hx : Hid (inI x)) (hy : Hid (inI y)) (hz : Hid (inI z)) (hx0 : Hid (x ≠ 0)) (Hl1 : Hid (l1 = [joinWs (refWords x y z)])) (h0 : C[0]? = some (.int .i64 x)) (h1 : C[1]? = some (.int .i64 y)) (h2 : C[2]? = some (.int .i64 z)) (g3 : C[3]? = some (.slice A3 n3 c3')) (w : World) (hR3 : Rd w w.heap.size 2 A3 n3 (ctr.map ctrCells).flatten) :
    Calls Try.prog 40 #[.agg C] w fun e w' => ∃ A c, e = .returned (.slice A (l1 ++ ctrLines ctr n3).length c) ∧ Rd w' w'.heap.size 1 A (l1 ++ ctrLines ctr n3).length ((l1 ++ ctrLines ctr n3).map strV) ∧ Below w.heap.size w w' := by
  have hxn : (x != 0) = true := by simpa using hx0.out
  have hbx := (Blk.new w 77 C)
  have c0 := (hbx.cell 0).trans h0
  have hB1 : Below w.heap.size w (w.alloc (.cells C 77)) := (Below.refl _ _).alloc (Nat.le_refl _) _
  go_enter Try.func40, Try.ntmps40
  go_wp2_with fail
  generalize w.alloc (.cells C 77) = W1 at *
  have hsz : w.heap.size + 1 ≤ W1.drew.heap.size := hbx.drew.lt
  refine Flow.wp_region_flow (w.heap.size + 1) [(13, fun b => w.heap.size + 1 ≤ b)] [(13, fun W => W.ownsRow (w.heap.size + 1) 9 1 (.slice none 0 0) 0 (List.map strV []))] (by kernel_rfl) (by kernel_rfl) hsz (Flow.nz_cons (fun _ h => h) Flow.nz_nil) (Flow.facts_cons (World.ownsRow_nil _ _ _ _) (fun _ _ c h => own_chg h c (fun _ _ => id)) (Flow.fz_cons (Flow.no_follow (by kernel_rfl)) Flow.fz_nil) Flow.facts_nil) ?_
  refine Flow.pass_old 3 (Flow.met_none rfl) (.inl rfl) (by kernel_rfl) (by kernel_rfl) rfl ?_
  apply Flow.pass_val (hm := (Flow.met_none rfl))
  · intro a W hH
    have e0 := Flow.see_old 1 hH.sees (by kernel_rfl) (by kernel_rfl) rfl
    go_simp; first | done | rfl
  refine Flow.pass_val (.int .i64 x) (Flow.met_none rfl) (fun a W hH => ?_) ?_
  · have e0 := Flow.see_new 16 1 hH.sees (by kernel_rfl) (by kernel_rfl) rfl rfl
    have c := ((hbx.drew.below hH.below (Nat.lt_succ_self _)).cell 0).trans h0; go_simp
  refine Flow.pass_step (Reg.eqs (.string ⟨(nameOf x).toArray⟩)) (fun _ _ => Flow.kept_eqs _ _) (Flow.met_none rfl) (fun a W hH => ?_) ?_
  · have e0 := Flow.see_new 17 2 hH.sees (by kernel_rfl) (by kernel_rfl) rfl rfl
    refine Reg.wp_call rfl Try.func48 rfl (by kernel_rfl) (by simp [Act.eval, e0]) (rName_any x hx.out.1 hx.out.2 W) ?_
    rintro e w' ⟨rfl, hB⟩
    exact ⟨_, rfl, _, rfl, hB, rfl⟩
  apply Flow.pass_val (hm := (Flow.met_none rfl))
  · intro a W hH
    have e0 := Flow.see_old 1 hH.sees (by kernel_rfl) (by kernel_rfl) rfl
    go_simp; first | done | rfl
  refine Flow.pass_val (.int .i64 y) (Flow.met_none rfl) (fun a W hH => ?_) ?_
  · have e0 := Flow.see_new 19 4 hH.sees (by kernel_rfl) (by kernel_rfl) rfl rfl
    have c := ((hbx.drew.below hH.below (Nat.lt_succ_self _)).cell 1).trans h1; go_simp
  refine Flow.pass_step (Reg.eqs (.string ⟨(digStr y).toArray⟩)) (fun _ _ => Flow.kept_eqs _ _) (Flow.met_none rfl) (fun a W hH => ?_) ?_
  · have e0 := Flow.see_new 20 5 hH.sees (by kernel_rfl) (by kernel_rfl) rfl rfl
    refine Reg.wp_call rfl Try.func42 rfl (by kernel_rfl) (by simp [Act.eval, e0]) (rDigits_any y hy.out.1 hy.out.2 W) ?_
    rintro e w' ⟨rfl, rfl⟩
    exact ⟨_, rfl, _, rfl, Below.refl _ _, rfl⟩
  apply Flow.pass_val (hm := (Flow.met_none rfl))
  · intro a W hH
    have e0 := Flow.see_old 1 hH.sees (by kernel_rfl) (by kernel_rfl) rfl
    go_simp; first | done | rfl
  refine Flow.pass_val (.int .i64 z) (Flow.met_none rfl) (fun a W hH => ?_) ?_
  · have e0 := Flow.see_new 22 7 hH.sees (by kernel_rfl) (by kernel_rfl) rfl rfl
    have c := ((hbx.drew.below hH.below (Nat.lt_succ_self _)).cell 2).trans h2; go_simp
  refine Flow.pass_step (Reg.eqs (.string ⟨(digStr z).toArray⟩)) (fun _ _ => Flow.kept_eqs _ _) (Flow.met_none rfl) (fun a W hH => ?_) ?_
  · have e0 := Flow.see_new 23 8 hH.sees (by kernel_rfl) (by kernel_rfl) rfl rfl
    refine Reg.wp_call rfl Try.func42 rfl (by kernel_rfl) (by simp [Act.eval, e0]) (rDigits_any z hz.out.1 hz.out.2 W) ?_
    rintro e w' ⟨rfl, rfl⟩
    exact ⟨_, rfl, _, rfl, Below.refl _ _, rfl⟩
  refine Flow.pass_lin [13] (fun v W => ∃ b, v = .slice (some ⟨b, 0, none⟩) 6 6 ∧ Blk W b 9 ((refWords x y z).map strV).toArray) (Flow.kept_lin [13] (fun _ _ _ c ⟨b, h1, h2⟩ => ⟨b, h1, h2.chg c id⟩) (Flow.lz_cons (fun _ => .inl rfl) Flow.lz_nil)) (Flow.met_none rfl) (fun a W hH => ?_) ?_
  · have e0 := Flow.see_new 18 3 hH.sees (by kernel_rfl) (by kernel_rfl) rfl rfl
    have e1 := Flow.see_new 21 6 hH.sees (by kernel_rfl) (by kernel_rfl) rfl rfl
    have e2 := Flow.see_new 24 9 hH.sees (by kernel_rfl) (by kernel_rfl) rfl rfl
    refine Flow.wp_run (Flow.reg_buildSlice _ rfl (by simp [Act.eval, strV, e0, e1, e2]) (run_strs W 6 (refWords x y z) _ rfl (by decide) (by decide) rfl)) ?_
    exact ⟨_, rfl, Chg.of_ext ((Ext.refl W).alloc _), W.heap.size, rfl, Blk.new _ _ _⟩
  refine Flow.pass_step (Reg.eqs (.string ⟨(joinWs (refWords x y z)).toArray⟩)) (fun _ _ => Flow.kept_eqs _ _) (Flow.met_none rfl) (fun a W hH => ?_) ?_
  · obtain ⟨b0, e0, q0⟩ := Flow.see_lin 25 10 hH.sees (by kernel_rfl) (by kernel_rfl) rfl rfl (by kernel_rfl)
    refine Reg.wp_call rfl Try.func66 rfl (by kernel_rfl) (by simp [Act.eval, e0]) (join_any b0 (refWords x y z) W q0 6 (Lib.hid rfl) (by omega) (refWords_len x y z hx.out hy.out hz.out)) ?_
    rintro e w' ⟨rfl, rfl⟩
    exact ⟨_, rfl, _, rfl, Below.refl _ _, rfl⟩
  refine Flow.pass_lin [13] (fun v W => ∃ b, v = .slice (some ⟨b, 0, none⟩) 1 1 ∧ Blk W b 9 #[strV (joinWs (refWords x y z))]) (Flow.kept_lin [13] (fun _ _ _ c ⟨b, h1, h2⟩ => ⟨b, h1, h2.chg c id⟩) (Flow.lz_cons (fun _ => .inl rfl) Flow.lz_nil)) (Flow.met_none rfl) (fun a W hH => ?_) ?_
  · have e0 := Flow.see_new 26 11 hH.sees (by kernel_rfl) (by kernel_rfl) rfl rfl
    refine Flow.wp_run (Flow.reg_buildSlice #[(0, .string ⟨(joinWs (refWords x y z)).toArray⟩)] rfl (by simp [Act.eval, e0]) (run_str1 W (joinWs (refWords x y z)))) ?_
    exact ⟨_, rfl, Chg.of_ext ((Ext.refl W).alloc _), W.heap.size, rfl, Blk.new _ _ _⟩
  refine Flow.pass_list (fun v W => Ls (w.heap.size + 1) (([] : List (List UInt8)) ++ [(joinWs (refWords x y z))]) v W) (Flow.kept_of (fun _ _ _ c h => h.chg0 c) (Flow.kz_cons (Flow.no_follow (by kernel_rfl)) Flow.kz_nil)) (Flow.met_none rfl) (fun a W hH => ?_) ?_
  · have e0 := Flow.see_new 15 0 hH.sees (by kernel_rfl) (by kernel_rfl) rfl rfl
    obtain ⟨b1, e1, q1⟩ := Flow.see_lin 27 12 hH.sees (by kernel_rfl) (by kernel_rfl) rfl rfl (by kernel_rfl)
    have fa0 : (fun W => W.ownsRow (w.heap.size + 1) 9 1 (.slice none 0 0) 0 (List.map strV [])) W := hH.fact _ (List.mem_of_getElem? (i := 0) rfl) rfl
    refine wpList_app W elS rfl _ _ rfl (w.heap.size + 1) none (0) 0 _ (by simpa [Act.eval] using e0) fa0 _ (some ⟨b1, 0, none⟩) 1 1 [strV (joinWs (refWords x y z))] (by simpa [Act.eval] using e1) (by have := q1.rd (size := 1) (n := 1) (by simp); simpa using this) (by simpa using strV_one [(joinWs (refWords x y z))]) (by omega) (by omega) (Nat.le_trans hsz hH.below.size) ?_
    intro A' c' W2 hO2 hg hB _
    exact Flow.qq_nil ⟨_, rfl, Chg.of_below hB (fun k hk _ => hk), Ls.of hO2⟩
  refine Flow.pass_copy 28 13 (Flow.met_none rfl) (.inr rfl) (by kernel_rfl) (by kernel_rfl) rfl rfl (Flow.kept_of (fun _ _ _ c h => h.chg0 c) (Flow.kz_cons (Flow.no_follow (by kernel_rfl)) Flow.kz_nil)) ?_
  refine Flow.pass_end [none, none, none, some 3, none, none, none, none, none, none, none, none, none, none, none, some 15, some 16, some 17, some 18, some 19, some 20, some 21, some 22, some 23, some 24, some 25, some 26, some 27, some 28, none, none, none, none, none, none, none, none, none, none, none, none, none, none, none, none, none, none, none, none, none, none, none, none, none, none, none, none, none, none, none, none, none, none, none, none, none, none, none, none, none, none, none, none, none, none, none, none, none, none, none, none, none, none, none, none, none, none, none, none, none, none, none, none, none, none, none, none, none, none, none, none, none, none, none, none, none, none, none, none, none, none, none, none, none, none, none, none, none, none, none, none, none, none, none, none, none, none, none, none, none, none, none, none, none, none, none, none, none, none, none, none, none, none, none, none, none, none, none, none, none] (by kernel_rfl) ?_
  intro f gg w9 hB hfa hT hfg
  have h3 := hT 14 _ (by kernel_rfl) rfl
  rw [← hfg 3 14 (by kernel_rfl)] at h3
  have hl1 : Hid (l1.length ≤ 300) := Lib.hid (by rw [Hl1.out]; simp)
  have hls : Ls (w.heap.size + 1) l1 (f 3) w9 := by rw [Hl1.out]; exact h3
  have B9 := hB1.drew.trans (hB.mono (Nat.le_succ _))
  have hs9 : w.heap.size + 1 ≤ w9.heap.size := Nat.le_trans hsz hB.size
  have c39 := ((hbx.drew.below hB (Nat.lt_succ_self _)).cell 3).trans g3
  clear hfa hT hfg hB hsz hbx hB1 h3
  simp only [Reg.sel]
  go_wp2_with fail
  clear c39
  go_loopw [3, 129] (fun v i wr => ∃ k : Nat, k ≤ n3 ∧ i = .int .i64 k ∧ Ls (w.heap.size + 1) (l1 ++ ctrLines ctr k) v wr ∧ Below w.heap.size w wr ∧ w.heap.size + 1 ≤ wr.heap.size) (fun _ i _ => n3 - (intOf i).toNat)
  case atStart => exact ⟨0, Nat.zero_le _, rfl, by simpa [ctrLines] using hls, B9, hs9⟩
  case round =>
    clear hls B9 hs9
    obtain ⟨k, hk, rfl, ⟨A0, c0, rfl, ho⟩, hBk, hGk⟩ := hrel
    have hlk : Hid ((l1 ++ ctrLines ctr k).length ≤ 400) := Lib.hid (by rw [List.length_append, ctrLines_len]; have := hl1.out; omega)
    by_cases hk2 : k < n3
    · have hkl : k < ctr.length := by rw [hctr.out]; exact hk2
      obtain ⟨b, o, rfl, hbG, hrg⟩ := (hR3.below hBk).range (by omega)
      obtain ⟨r, hrd⟩ : ∃ r, r = ctr[k] := ⟨_, rfl⟩
      have hr : Hid (ctrOk r) := Lib.hid (by rw [hrd]; exact hcok.out _ (List.getElem_mem hkl))
      have hrr := range_row ctrCells 2 ctr o (fun x _ => rfl) hrg k hkl
      rw [← hrd] at hrr
      have Hr := Lib.hid hrd
      obtain ⟨lk, hlkd⟩ : ∃ lk, lk = l1 ++ ctrLines ctr k := ⟨_, rfl⟩
      have Hlk := Lib.hid hlkd
      rw [← hlkd] at ho hlk ⊢
      clear hrd hlkd hrg
      go_upto_region 31 with (first
        | ((with_reducible refine at_load 127 ?_); refine wpList_load_mid rfl 127 _ rfl b (o + k * 2) rfl (ctrCells r) _ hrr Try.underlying127 rfl (by kernel_rfl) ?_)
        | ((with_reducible refine at_store 127 ?_); refine wpList_storeAll _ rfl 127 _ _ rfl wr.heap.size 127 _ (ctrCells r).toArray (Blk.new wr _ _) rfl rfl rfl (by kernel_rfl) (ctrCells_one r) ?_; intro W3 hy hg3 hs3; have C3 := (Chg.of_ext (Z := fun b => b = wr.heap.size) ((Ext.refl wr).alloc _)).trans (Chg.grown hg3 (by rintro k h; cases h; rfl))))
      simp only [Act.put]
      have ho := own_chg ho C3 (fun j hj e => by have := (own_some ho hj).2; omega)
      have B3 : Below w.heap.size w W3 := hBk.trans (C3.below (n := w.heap.size) (fun j e => by have e2 : j = wr.heap.size := e; omega) (by omega))
      have hsz : w.heap.size + 1 ≤ W3.drew.heap.size := Nat.le_of_lt (Nat.lt_of_le_of_lt hGk hy.drew.lt)
      have hlk : lk.length ≤ 1000 := by have := hlk.out; omega
      have hcg : IntKind.i64.wrap (r.1 : Int) = (r.1 : Int) := IntWalk.i64_in _ (by have := hr.out.1; omega)
      clear hg3 hs3 C3 hBk hrr
      refine Flow.wp_region_flow (w.heap.size + 1) [(13, fun b => w.heap.size + 1 ≤ b)] [(4, fun W => Blk W wr.heap.size 127 (ctrCells r).toArray), (8, fun W => Blk W wr.heap.size 127 (ctrCells r).toArray), (13, fun W => W.ownsRow (w.heap.size + 1) 9 1 (.slice A0 lk.length c0) lk.length (lk.map strV))] (by kernel_rfl) (by kernel_rfl) hsz (Flow.nz_cons (fun _ h => h) Flow.nz_nil) (Flow.facts_cons (hy.drew) (fun _ _ c h => h.chg c id) (Flow.fz_cons (Flow.no_follow (by kernel_rfl)) Flow.fz_nil) (Flow.facts_cons (hy.drew) (fun _ _ c h => h.chg c id) (Flow.fz_cons (Flow.no_follow (by kernel_rfl)) Flow.fz_nil) (Flow.facts_cons (ho.drew) (fun _ _ c h => own_chg h c (fun _ _ => id)) (Flow.fz_cons (Flow.no_follow (by kernel_rfl)) Flow.fz_nil) Flow.facts_nil))) ?_
      refine Flow.pass_old 3 (Flow.met_none rfl) (.inl rfl) (by kernel_rfl) (by kernel_rfl) rfl ?_
      refine Flow.pass_old 10 (Flow.met_none rfl) (.inl rfl) (by kernel_rfl) (by kernel_rfl) rfl ?_
      refine Flow.pass_step (Reg.eqs (.string ⟨(digStr (k : Nat)).toArray⟩)) (fun _ _ => Flow.kept_eqs _ _) (Flow.met_none rfl) (fun a W hH => ?_) ?_
      · have e0 := Flow.see_new 135 1 hH.sees (by kernel_rfl) (by kernel_rfl) rfl rfl
        refine Reg.wp_call rfl Try.func42 rfl (by kernel_rfl) (by simp [Act.eval, e0]) (rDigits_any (k : Nat) (by omega) (by omega) W) ?_
        rintro e w' ⟨rfl, rfl⟩
        exact ⟨_, rfl, _, rfl, Below.refl _ _, rfl⟩
      apply Flow.pass_val (hm := (Flow.met_none rfl))
      · intro a W hH
        have e0 := Flow.see_old 11 hH.sees (by kernel_rfl) (by kernel_rfl) rfl
        go_simp; first | done | rfl
      refine Flow.pass_val (.int .u32 (r.1 : Nat)) (Flow.met_none rfl) (fun a W hH => ?_) ?_
      · have e0 := Flow.see_new 137 3 hH.sees (by kernel_rfl) (by kernel_rfl) rfl rfl
        have fa0 : (fun W => Blk W wr.heap.size 127 (ctrCells r).toArray) W := hH.fact _ (List.mem_of_getElem? (i := 0) rfl) rfl
        have c := fa0.cell 0; simp only [ctrCells] at c; go_simp
      refine Flow.pass_val (.int .i64 (r.1 : Nat)) (Flow.met_none rfl) (fun a W hH => ?_) ?_
      · have e0 := Flow.see_new 138 4 hH.sees (by kernel_rfl) (by kernel_rfl) rfl rfl
        go_simp; first | done | exact hcg
      refine Flow.pass_step (Reg.eqs (.string ⟨(digStr (r.1 : Nat)).toArray⟩)) (fun _ _ => Flow.kept_eqs _ _) (Flow.met_none rfl) (fun a W hH => ?_) ?_
      · have e0 := Flow.see_new 139 5 hH.sees (by kernel_rfl) (by kernel_rfl) rfl rfl
        refine Reg.wp_call rfl Try.func42 rfl (by kernel_rfl) (by simp [Act.eval, e0]) (rDigits_any (r.1 : Nat) (by have := hr.out.1; omega) (by have := hr.out.1; omega) W) ?_
        rintro e w' ⟨rfl, rfl⟩
        exact ⟨_, rfl, _, rfl, Below.refl _ _, rfl⟩
      apply Flow.pass_val (hm := (Flow.met_none rfl))
      · intro a W hH
        have e0 := Flow.see_old 11 hH.sees (by kernel_rfl) (by kernel_rfl) rfl
        go_simp; first | done | rfl
      refine Flow.pass_val (.int .i64 r.2) (Flow.met_none rfl) (fun a W hH => ?_) ?_
      · have e0 := Flow.see_new 141 7 hH.sees (by kernel_rfl) (by kernel_rfl) rfl rfl
        have fa1 : (fun W => Blk W wr.heap.size 127 (ctrCells r).toArray) W := hH.fact _ (List.mem_of_getElem? (i := 1) rfl) rfl
        have c := fa1.cell 1; simp only [ctrCells] at c; go_simp
      refine Flow.pass_step (Reg.eqs (.string ⟨(nameOf r.2).toArray⟩)) (fun _ _ => Flow.kept_eqs _ _) (Flow.met_none rfl) (fun a W hH => ?_) ?_
      · have e0 := Flow.see_new 142 8 hH.sees (by kernel_rfl) (by kernel_rfl) rfl rfl
        refine Reg.wp_call rfl Try.func48 rfl (by kernel_rfl) (by simp [Act.eval, e0]) (rName_any r.2 hr.out.2.1 hr.out.2.2 W) ?_
        rintro e w' ⟨rfl, hB⟩
        exact ⟨_, rfl, _, rfl, hB, rfl⟩
      refine Flow.pass_lin [13] (fun v W => ∃ b, v = .slice (some ⟨b, 0, none⟩) 4 4 ∧ Blk W b 9 ((ctrW k r).map strV).toArray) (Flow.kept_lin [13] (fun _ _ _ c ⟨b, h1, h2⟩ => ⟨b, h1, h2.chg c id⟩) (Flow.lz_cons (fun _ => .inl rfl) Flow.lz_nil)) (Flow.met_none rfl) (fun a W hH => ?_) ?_
      · have e0 := Flow.see_new 136 2 hH.sees (by kernel_rfl) (by kernel_rfl) rfl rfl
        have e1 := Flow.see_new 140 6 hH.sees (by kernel_rfl) (by kernel_rfl) rfl rfl
        have e2 := Flow.see_new 143 9 hH.sees (by kernel_rfl) (by kernel_rfl) rfl rfl
        refine Flow.wp_run (Flow.reg_buildSlice _ rfl (by simp [Act.eval, strV, e0, e1, e2]) (run_strs W 4 (ctrW k r) _ rfl (by decide) (by decide) rfl)) ?_
        exact ⟨_, rfl, Chg.of_ext ((Ext.refl W).alloc _), W.heap.size, rfl, Blk.new _ _ _⟩
      refine Flow.pass_step (Reg.eqs (.string ⟨(joinWs (ctrW k r)).toArray⟩)) (fun _ _ => Flow.kept_eqs _ _) (Flow.met_none rfl) (fun a W hH => ?_) ?_
      · obtain ⟨b0, e0, q0⟩ := Flow.see_lin 144 10 hH.sees (by kernel_rfl) (by kernel_rfl) rfl rfl (by kernel_rfl)
        refine Reg.wp_call rfl Try.func66 rfl (by kernel_rfl) (by simp [Act.eval, e0]) (join_any b0 (ctrW k r) W q0 4 (Lib.hid rfl) (by omega) (ctrW_len k r (by omega) hr.out)) ?_
        rintro e w' ⟨rfl, rfl⟩
        exact ⟨_, rfl, _, rfl, Below.refl _ _, rfl⟩
      refine Flow.pass_lin [13] (fun v W => ∃ b, v = .slice (some ⟨b, 0, none⟩) 1 1 ∧ Blk W b 9 #[strV (joinWs (ctrW k r))]) (Flow.kept_lin [13] (fun _ _ _ c ⟨b, h1, h2⟩ => ⟨b, h1, h2.chg c id⟩) (Flow.lz_cons (fun _ => .inl rfl) Flow.lz_nil)) (Flow.met_none rfl) (fun a W hH => ?_) ?_
      · have e0 := Flow.see_new 145 11 hH.sees (by kernel_rfl) (by kernel_rfl) rfl rfl
        refine Flow.wp_run (Flow.reg_buildSlice #[(0, .string ⟨(joinWs (ctrW k r)).toArray⟩)] rfl (by simp [Act.eval, e0]) (run_str1 W (joinWs (ctrW k r)))) ?_
        exact ⟨_, rfl, Chg.of_ext ((Ext.refl W).alloc _), W.heap.size, rfl, Blk.new _ _ _⟩
      refine Flow.pass_list (fun v W => Ls (w.heap.size + 1) (lk ++ [(joinWs (ctrW k r))]) v W) (Flow.kept_of (fun _ _ _ c h => h.chg0 c) (Flow.kz_cons (Flow.no_follow (by kernel_rfl)) Flow.kz_nil)) (Flow.met_none rfl) (fun a W hH => ?_) ?_
      · have e0 := Flow.see_new 134 0 hH.sees (by kernel_rfl) (by kernel_rfl) rfl rfl
        obtain ⟨b1, e1, q1⟩ := Flow.see_lin 146 12 hH.sees (by kernel_rfl) (by kernel_rfl) rfl rfl (by kernel_rfl)
        have fa2 : (fun W => W.ownsRow (w.heap.size + 1) 9 1 (.slice A0 lk.length c0) lk.length (lk.map strV)) W := hH.fact _ (List.mem_of_getElem? (i := 2) rfl) rfl
        refine wpList_app W elS rfl _ _ rfl (w.heap.size + 1) A0 (lk.length) c0 _ (by simpa [Act.eval] using e0) fa2 _ (some ⟨b1, 0, none⟩) 1 1 [strV (joinWs (ctrW k r))] (by simpa [Act.eval] using e1) (by have := q1.rd (size := 1) (n := 1) (by simp); simpa using this) (by simpa using strV_one [(joinWs (ctrW k r))]) (by omega) (by omega) (Nat.le_trans hsz hH.below.size) ?_
        intro A' c' W2 hO2 hg hB _
        exact Flow.qq_nil ⟨_, rfl, Chg.of_below hB (fun k hk _ => hk), Ls.of hO2⟩
      refine Flow.pass_copy 147 13 (Flow.met_none rfl) (.inr rfl) (by kernel_rfl) (by kernel_rfl) rfl rfl (Flow.kept_of (fun _ _ _ c h => h.chg0 c) (Flow.kz_cons (Flow.no_follow (by kernel_rfl)) Flow.kz_nil)) ?_
      refine Flow.pass_end [none, none, none, some 3, none, none, none, none, none, none, none, none, none, none, none, none, none, none, none, none, none, none, none, none, none, none, none, none, none, none, none, none, none, none, none, none, none, none, none, none, none, none, none, none, none, none, none, none, none, none, none, none, none, none, none, none, none, none, none, none, none, none, none, none, none, none, none, none, none, none, none, none, none, none, none, none, none, none, none, none, none, none, none, none, none, none, none, none, none, none, none, none, none, none, none, none, none, none, none, none, none, none, none, none, none, none, none, none, none, none, none, none, none, none, none, none, none, none, none, none, none, none, none, none, none, none, none, none, none, none, none, none, none, none, some 134, some 135, some 136, some 137, some 138, some 139, some 140, some 141, some 142, some 143, some 144, some 145, some 146, some 147, none, none] (by kernel_rfl) ?_
      intro f gg w9 hB hfa hT hfg
      have h3 := hT 14 _ (by kernel_rfl) rfl
      rw [← hfg 3 14 (by kernel_rfl)] at h3
      have hs9 : w.heap.size + 1 ≤ w9.heap.size := Nat.le_trans hsz hB.size
      have B9 := B3.drew.trans (hB.mono (Nat.le_succ _))
      clear hfa hT hfg hB B3 hy
      obtain ⟨A5, c5, e5, o5⟩ := h3
      rw [List.length_append] at e5
      simp only [Reg.sel, e5]
      go_wp2
      go_roundw
      case rel => ((try ((repeat apply Exists.intro); refine ⟨?_, rfl⟩)); exact ⟨k + 1, by omega, by go_num, by rw [ctrLines_succ ctr k hkl, ← List.append_assoc, ← Hlk.out, ← Hr.out]; exact ⟨A5, c5, by rw [List.length_append], o5⟩, B9, hs9⟩)
      case measure => simp [intOf]; omega
    · have hke : k = n3 := by omega
      subst hke
      go_wp2
      go_ret
      exact ⟨A0, c0, by rw [List.length_append]; rfl, Rd.of_own ho, hBk⟩
end Go.Proofs.Ytnjfghlgknnhmaa
