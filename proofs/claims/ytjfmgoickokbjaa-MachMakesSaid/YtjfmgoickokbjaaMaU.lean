/-
  Walk: the reference's find.
-/
import Derived.Test.YtjfmgoickokbjaaMaT
namespace Go.Proofs.Ytjfmgoickokbjaa
open Go.RowKit

theorem run_page (w : World) (at_ b : Nat) : (Instr.build 100 #[(0, .int .u64 (at_ : Int)), (1, pgV b)]).run Try.prog w = .ok (.agg #[.int .u64 (at_ : Int), pgV b]) w := by
  have := run_build_rows (P := Try.prog) w (t := 100) (z := #[.int .u64 0, .slice none 0 0]) #[(0, .int .u64 (at_ : Int)), (1, pgV b)] [.int .u64 (at_ : Int), pgV b] [(0, 1), (1, 1)]
    Try.underlying100 (by kernel_rfl) (by kernel_rfl) rfl (by simp [Rows1, Value.cells, pgV]) (by simp [flat, Value.cells, pgV])
  simpa [flat, Value.cells, pgV] using this
theorem run_pages1 (w : World) (at_ b : Nat) : (Instr.buildSlice 93 1 #[(0, .agg #[.int .u64 (at_ : Int), pgV b])]).run Try.prog w = .ok (.slice (some ⟨w.heap.size, 0, none⟩) 1 1) (w.alloc (.cells #[.int .u64 (at_ : Int), pgV b] 100)) := by
  have := run_buildSlice_all (P := Try.prog) w elPg 1 #[(0, .agg #[.int .u64 (at_ : Int), pgV b])] [.agg #[.int .u64 (at_ : Int), pgV b]] rfl rfl (by omega) (by omega) (by simp [Value.cells])
  simpa [flat, Value.cells] using this
theorem grown_setM (w : World) (g k' : Nat) (v : Value) : w.grownBy (w.setCell ⟨g, k', none⟩ v) (some g) := ⟨rfl, rfl, rfl, by simp, fun k _ hk => heap_setCell_other w ⟨g, k', none⟩ k v (fun e => hk (by simp [e]))⟩
/-- what find comes to -/
def FindRet (w : World) (r : Nat) (ram : Sp) (m : Mm) (F : Nat → Prop) (ps : List (Nat × Nat)) (k : Nat) (made : Bool) (e : Ending) (w' : World) : Prop :=
  (∃ j x, e = .returned (.int .i64 ((j : Nat) : Int)) ∧ ps[j]? = some x ∧ x.1 = k ∧ w' = w) ∨
  ((∀ x ∈ ps, x.1 ≠ k) ∧ made = false ∧ e = .returned (.int .i64 (-1)) ∧ w' = w) ∨
  ((∀ x ∈ ps, x.1 ≠ k) ∧ made = true ∧ e = .returned (.int .i64 (ps.length : Int)) ∧ ∃ F' A1 c1 g, RM w' r ram m F' (ps ++ [(k, g)]) A1 c1 ∧ Chg F w w' ∧ (∀ b, F b → F' b) ∧ ∀ b, F' b → F b ∨ w.heap.size ≤ b)

set_option maxRecDepth 100000 in
set_option maxHeartbeats 4000000 in
theorem rfind_any (r : Nat) (ram : Sp) (m : Mm) (F : Nat → Prop) (ps : List (Nat × Nat)) (A : Option Addr) (c k at_ : Nat) (hk : k < 4503599627370496) (hat : at_ = 4096 * k) (hps : ps.length ≤ 1000000) (made : Bool) (w : World) (hP : RM w r ram m F ps A c) :
    Calls Try.prog 47 #[.pointer (some ⟨r, 0, none⟩), .int .u64 (at_ : Int), .bool made] w (FindRet w r ram m F ps k made) := by
  have c2 : w.cell? ⟨r, 2, none⟩ = some (.slice A ps.length c) := (hP.blk.cell 2).trans rfl
  have HAT := Lib.hid hat
  clear hat
  go_enter Try.func47, Try.ntmps47
  go_wp2
  go_loopw [13] (fun v wr => ∃ j : Nat, j ≤ ps.length ∧ v = .int .i64 j ∧ wr = w ∧ Hid (∀ x ∈ ps.take j, x.1 ≠ k)) (fun v _ => ps.length - (intOf v).toNat)
  case atStart => exact ⟨0, Nat.zero_le _, rfl, rfl, Lib.hid (by simp)⟩
  case round =>
    obtain ⟨j, hj, rfl, rfl, hall⟩ := hrel
    by_cases hlt : j < ps.length
    · obtain ⟨x, hx⟩ : ∃ x, ps[j]? = some x := ⟨_, List.getElem?_eq_getElem hlt⟩
      have hxm := List.mem_of_getElem? hx
      have hxk := (hP.rows x hxm).2.2
      obtain ⟨ba, bo, rfl, _, _⟩ := (Rd.of_own hP.own).range (by omega)
      have hrng := rd_page (Rd.of_own hP.own) j x hx
      have ca : wr.cell? ⟨ba, bo + j * 2, none⟩ = some (.int .u64 ((4096 * x.1 : Nat) : Int)) := hrng 0 _ rfl
      obtain ⟨y, hy⟩ : ∃ y, y = 4096 * x.1 := ⟨_, rfl⟩
      rw [← hy] at ca
      have HX := Lib.hid hx
      by_cases he : x.1 = k
      · have hyk : ((y : Int) == (at_ : Int)) = true := by have := HAT.out; simp; omega
        clear hrng hx hxm hy hxk
        go_wp2
        go_ret
        exact .inl ⟨j, x, rfl, HX.out, he, rfl⟩
      · have hyk : ((y : Int) == (at_ : Int)) = false := by have := HAT.out; simp; omega
        have hnext : Hid (∀ z ∈ ps.take (j + 1), z.1 ≠ k) := Lib.hid (fun z hz => by
          rw [List.take_add_one, HX.out] at hz
          simp only [Option.toList_some, List.mem_append, List.mem_singleton] at hz
          rcases hz with hz | rfl
          · exact hall.out z hz
          · exact he)
        clear hrng hx hxm hy hxk he
        go_wp2
        go_roundw
        case rel => exact ⟨j + 1, by omega, by go_num, by first | rfl | trivial, hnext⟩
        case measure => simp [intOf]; omega
    · obtain ⟨n, hn⟩ : ∃ n, n = ps.length := ⟨_, rfl⟩
      have hall2 : ∀ x ∈ ps, x.1 ≠ k := fun x hx => hall.out x (by rw [List.take_of_length_le (by omega)]; exact hx)
      clear hall hn
      cases made with
      | false =>
        go_wp2
        go_ret
        exact .inr (.inl ⟨hall2, by first | rfl | trivial | simp, by first | rfl | trivial, by first | rfl | trivial⟩)
      | true =>
        go_wp2
        obtain ⟨w, hw⟩ : ∃ w, w = wr := ⟨_, rfl⟩
        subst hw
        refine Flow.wp_region_flow (0) [(9, fun b => (Value.slice A ps.length c).ownBlock = some b), (12, fun b => b = r)] [(4, fun W => Blk W r 95 (#[.int .u64 (ram.base : Int), .int .u64 (ram.size : Int), .slice A ps.length c])), (9, fun W => W.ownsRow 0 100 2 (.slice A ps.length c) ps.length (pcells ps)), (12, fun W => Blk W r 95 (#[.int .u64 (ram.base : Int), .int .u64 (ram.size : Int), .slice A ps.length c])), (13, fun W => Chg F w W), (13, fun W => ∀ x ∈ ps, W.heap[x.2]? = w.heap[x.2]? ∧ x.2 < W.heap.size)] (by kernel_rfl) (by kernel_rfl) (Nat.zero_le _) (Flow.nz_cons (fun _ _ => Nat.zero_le _) (Flow.nz_cons (fun _ _ => Nat.zero_le _) Flow.nz_nil)) (Flow.facts_cons (hP.blk.drew) (Flow.kept_blk id) (Flow.fz_cons (Flow.no_follow (by kernel_rfl)) (Flow.fz_cons (Flow.no_follow (by kernel_rfl)) Flow.fz_nil)) (Flow.facts_cons (hP.own.drew) (Flow.kept_own (fun _ _ => id)) (Flow.fz_cons (Flow.no_follow (by kernel_rfl)) (Flow.fz_cons (Flow.no_follow (by kernel_rfl)) Flow.fz_nil)) (Flow.facts_cons (hP.blk.drew) (Flow.kept_blk id) (Flow.fz_cons (fun _ => Flow.kept_blk (fun e => hP.own_r e rfl)) (Flow.fz_cons (Flow.no_follow (by kernel_rfl)) Flow.fz_nil)) (Flow.facts_cons ((Chg.refl F w).drew) (fun _ _ c h => h.trans (c.mono (fun _ h => h.elim))) (Flow.fz_cons (fun _ => fun _ _ c h => h.trans (c.mono (fun b hb => hP.ownF b hb))) (Flow.fz_cons (fun _ => fun _ _ c h => h.trans (c.mono (fun b hb => hb ▸ hP.fr))) Flow.fz_nil)) (Flow.facts_cons (fun x hx => ⟨rfl, (hP.rows x hx).1.lt⟩) (fun _ _ c h x hx => ⟨(c.block _ (h x hx).2 id).trans (h x hx).1, Nat.lt_of_lt_of_le (h x hx).2 c.size⟩) (Flow.fz_cons (fun _ => fun _ _ c h x hx => ⟨(c.block _ (h x hx).2 (fun e => hP.own_g e hx rfl)).trans (h x hx).1, Nat.lt_of_lt_of_le (h x hx).2 c.size⟩) (Flow.fz_cons (fun _ => fun _ _ c h x hx => ⟨(c.block _ (h x hx).2 (fun e => hP.g_r hx e)).trans (h x hx).1, Nat.lt_of_lt_of_le (h x hx).2 c.size⟩) Flow.fz_nil)) Flow.facts_nil))))) ?_
        refine Flow.pass_old (X := .pointer (some ⟨r, 0, none⟩)) 0 (Flow.met_none rfl) (.inl rfl) (by kernel_rfl) (by kernel_rfl) rfl ?_
        refine Flow.pass_old (X := .pointer (some ⟨r, 0, none⟩)) 0 (Flow.met_none rfl) (.inl rfl) (by kernel_rfl) (by kernel_rfl) rfl ?_
        refine Flow.pass_val (.pointer (some ⟨r, 0, none⟩)) (Flow.met_none rfl) (fun a W hH => ?_) ?_
        · have e0 := Flow.see_new 31 1 hH.sees (by kernel_rfl) (by kernel_rfl) rfl rfl
          go_simp; first | done | rfl
        refine Flow.pass_val (.pointer (some ⟨r, 2, none⟩)) (Flow.met_none rfl) (fun a W hH => ?_) ?_
        · have e0 := Flow.see_new 32 2 hH.sees (by kernel_rfl) (by kernel_rfl) rfl rfl
          go_simp; first | done | rfl
        refine Flow.pass_val (.slice A ps.length c) (Flow.met_none rfl) (fun a W hH => ?_) ?_
        · have e0 := Flow.see_new 33 3 hH.sees (by kernel_rfl) (by kernel_rfl) rfl rfl
          have fa0 : (fun W => Blk W r 95 (#[.int .u64 (ram.base : Int), .int .u64 (ram.size : Int), .slice A ps.length c])) W := hH.fact _ (List.mem_of_getElem? (i := 0) rfl) rfl
          have cc : World.cell? W ⟨r, 2, none⟩ = some (.slice A ps.length c) := (fa0.cell 2).trans rfl; go_simp; first | done | rfl
        refine Flow.pass_old (X := .int .u64 (at_ : Int)) 1 (Flow.met_none rfl) (.inl rfl) (by kernel_rfl) (by kernel_rfl) rfl ?_
        refine Flow.pass_linlist [9, 12] (fun v W => ∃ b, v = pgV b ∧ (w.heap.size ≤ b ∧ Blk W b 5 (bcells (List.replicate 4096 0)).toArray)) (Flow.kept_lin [9, 12] (fun _ _ _ c ⟨b, h1, h0, h2⟩ => ⟨b, h1, h0, h2.ext c.ext⟩) (Flow.lz_cons (fun _ => .inl rfl) (Flow.lz_cons (fun _ => .inl rfl) Flow.lz_nil))) (Flow.met_none rfl) (fun a W hH => ?_) ?_
        · refine wpList_makeN W el8m rfl _ _ rfl .i64 .i64 _ _ 4096 4096 rfl rfl rfl rfl (by omega) (by omega) (by omega) ?_
          intro w1 hb1 hs1 hB1
          rw [made_zero] at hb1
          exact Flow.qq_nil ⟨_, rfl, Chg.of_ext hB1, W.heap.size, rfl, hH.below.size, hb1⟩
        refine Flow.pass_lin [9, 12] (fun v W => ∃ b, v = .agg #[.int .u64 (at_ : Int), pgV b] ∧ (w.heap.size ≤ b ∧ Blk W b 5 (bcells (List.replicate 4096 0)).toArray)) (Flow.kept_lin [9, 12] (fun _ _ _ c ⟨b, h1, h0, h2⟩ => ⟨b, h1, h0, h2.ext c.ext⟩) (Flow.lz_cons (fun _ => .inl rfl) (Flow.lz_cons (fun _ => .inl rfl) Flow.lz_nil))) (Flow.met_none rfl) (fun a W hH => ?_) ?_
        · have e0 := Flow.see_new 35 5 hH.sees (by kernel_rfl) (by kernel_rfl) rfl rfl
          obtain ⟨b1, e1, q1⟩ := Flow.see_lin 36 6 hH.sees (by kernel_rfl) (by kernel_rfl) rfl rfl (by kernel_rfl)
          refine Flow.wp_run (Flow.reg_build _ rfl (by simp [Act.eval, e0, e1]) (run_page W at_ b1)) ?_
          exact ⟨_, rfl, Chg.of_ext (Ext.refl W), b1, rfl, q1⟩
        refine Flow.pass_lin [9, 12] (fun v W => ∃ b b2, v = .slice (some ⟨b2, 0, none⟩) 1 1 ∧ (w.heap.size ≤ b ∧ Blk W b2 100 #[.int .u64 (at_ : Int), pgV b] ∧ Blk W b 5 (bcells (List.replicate 4096 0)).toArray)) (Flow.kept_lin [9, 12] (fun _ _ _ c ⟨b, b2, h1, h0, h2, h3⟩ => ⟨b, b2, h1, h0, h2.ext c.ext, h3.ext c.ext⟩) (Flow.lz_cons (fun _ => .inl rfl) (Flow.lz_cons (fun _ => .inl rfl) Flow.lz_nil))) (Flow.met_none rfl) (fun a W hH => ?_) ?_
        · obtain ⟨b0, e0, q0⟩ := Flow.see_lin 37 7 hH.sees (by kernel_rfl) (by kernel_rfl) rfl rfl (by kernel_rfl)
          refine Flow.wp_run (Flow.reg_buildSlice _ rfl (by simp [Act.eval, e0]) (run_pages1 W at_ b0)) ?_
          exact ⟨_, rfl, Chg.of_ext ((Ext.refl W).alloc _), b0, W.heap.size, rfl, q0.1, Blk.new _ _ _, q0.2.alloc _⟩
        refine Flow.pass_linlist [12] (fun v W => ∃ A1 c1 b, v = .slice A1 (ps.length + 1) c1 ∧ (W.ownsRow 0 100 2 (.slice A1 (ps.length + 1) c1) (ps.length + 1) (pcells ps ++ [.int .u64 (at_ : Int), pgV b]) ∧ (∀ x, (Value.slice A1 (ps.length + 1) c1).ownBlock = some x → (Value.slice A ps.length c).ownBlock = some x ∨ w.heap.size ≤ x) ∧ w.heap.size ≤ b ∧ Blk W b 5 (bcells (List.replicate 4096 0)).toArray)) (Flow.kept_lin [12] (fun _ _ _ c ⟨A1, c1, b, h1, h2, h3, h4, h5⟩ => ⟨A1, c1, b, h1, own_chg h2 c (fun _ _ => id), h3, h4, h5.chg c id⟩) (Flow.lz_cons (Flow.no_follow (by kernel_rfl)) (Flow.lz_cons (fun _ => .inl rfl) Flow.lz_nil))) (Flow.met_none rfl) (fun a W hH => ?_) ?_
        · have e0 := Flow.see_new 34 4 hH.sees (by kernel_rfl) (by kernel_rfl) rfl rfl
          obtain ⟨b1, bb1, e1, q1⟩ := Flow.see_lin 38 8 hH.sees (by kernel_rfl) (by kernel_rfl) rfl rfl (by kernel_rfl)
          have fa1 : (fun W => W.ownsRow 0 100 2 (.slice A ps.length c) ps.length (pcells ps)) W := hH.fact _ (List.mem_of_getElem? (i := 1) rfl) rfl
          refine wpList_app W elPg rfl _ _ rfl 0 A ps.length c _ (by simpa [Act.eval] using e0) fa1 W.heap.size (some ⟨bb1, 0, none⟩) 1 1 [.int .u64 (at_ : Int), pgV b1] (by simpa [Act.eval] using e1) (by have := q1.2.1.rd (size := 2) (n := 1) rfl; simpa using this) (by intro u hu; simp only [List.mem_cons, List.not_mem_nil, or_false] at hu; rcases hu with rfl | rfl <;> rfl) (by omega) (by omega) (Nat.zero_le _) ?_
          intro A1 c1 W2 hO2 hg hB hob
          refine Flow.qq_nil ⟨_, rfl, Chg.grown hg (fun b hb => hb), A1, c1, b1, rfl, hO2, fun x hx => ?_, q1.1, q1.2.2.grown hg (fun e => ?_)⟩
          · rcases hob with h4 | h4
            · left; rw [← h4]; exact hx
            · right; rw [hx] at h4; cases h4; exact hH.below.size
          · have h5 := (hP.own.lt b1 e.symm).2; have h6 := q1.1; omega
        refine Flow.pass_val (.pointer (some ⟨r, 0, none⟩)) (Flow.met_none rfl) (fun a W hH => ?_) ?_
        · have e0 := Flow.see_new 30 0 hH.sees (by kernel_rfl) (by kernel_rfl) rfl rfl
          go_simp; first | done | rfl
        refine Flow.pass_val (.pointer (some ⟨r, 2, none⟩)) (Flow.met_none rfl) (fun a W hH => ?_) ?_
        · have e0 := Flow.see_new 40 10 hH.sees (by kernel_rfl) (by kernel_rfl) rfl rfl
          go_simp; first | done | rfl
        refine Flow.pass_gen (fun _ W => ∃ A1 c1 b, Blk W r 95 #[.int .u64 (ram.base : Int), .int .u64 (ram.size : Int), .slice A1 (ps.length + 1) c1] ∧ (W.ownsRow 0 100 2 (.slice A1 (ps.length + 1) c1) (ps.length + 1) (pcells ps ++ [.int .u64 (at_ : Int), pgV b]) ∧ (∀ x, (Value.slice A1 (ps.length + 1) c1).ownBlock = some x → (Value.slice A ps.length c).ownBlock = some x ∨ w.heap.size ≤ x) ∧ w.heap.size ≤ b ∧ Blk W b 5 (bcells (List.replicate 4096 0)).toArray)) (Flow.kept_of (fun _ _ _ c ⟨A1, c1, b, h1, h2, h3, h4, h5⟩ => ⟨A1, c1, b, h1.chg c id, own_chg h2 c (fun _ _ => id), h3, h4, h5.chg c id⟩) (Flow.kz_cons (Flow.no_follow (by kernel_rfl)) (Flow.kz_cons (Flow.no_follow (by kernel_rfl)) Flow.kz_nil))) (Flow.met_none rfl) (fun a W hH => ?_) ?_
        · have e0 := Flow.see_new 41 11 hH.sees (by kernel_rfl) (by kernel_rfl) rfl rfl
          obtain ⟨AA1, cc1, b1, e1, q1⟩ := Flow.see_lin 39 9 hH.sees (by kernel_rfl) (by kernel_rfl) rfl rfl (by kernel_rfl)
          have fa2 : (fun W => Blk W r 95 (#[.int .u64 (ram.base : Int), .int .u64 (ram.size : Int), .slice A ps.length c])) W := hH.fact _ (List.mem_of_getElem? (i := 2) rfl) rfl
          refine wp_skip (reg_storeSlice rfl (by kernel_rfl) fa2 e0 e1 (by show 2 < 3; omega)) ?_
          obtain ⟨hO2, hob, hbn, hbz⟩ := q1
          refine ⟨_, rfl, Chg.grown (grown_setM W r 2 _) (by rintro k h; cases h; rfl), AA1, cc1, b1, ?_, own_chg hO2 (Chg.grown (grown_setM W r 2 _) (Z := fun b => b = r) (by rintro k h; cases h; rfl)) (fun b hb e => ?_), hob, hbn, hbz.far (by have := hP.blk.lt; show b1 ≠ r; omega) _⟩
          · exact fa2.set_ 2 _
          · have e2 : b = r := e; subst e2; rcases hob _ hb with h4 | h4; exact hP.own_r h4 rfl; have := hP.blk.lt; omega
        refine Flow.pass_end [none, none, none, none, none, none, none, none, none, none, none, none, none, none, none, none, none, none, none, none, none, none, none, none, none, none, none, none, none, none, some 30, some 31, some 32, some 33, some 34, some 35, some 36, some 37, some 38, some 39, some 40, some 41, none, none, none, none, none, none] (by kernel_rfl) ?_
        intro f gg w9 hB hfa hT hfg
        obtain ⟨A1, c1, b, hb9, hO9, hob9, hbn, hbz⟩ := hT 12 _ (by kernel_rfl) rfl
        have C9 : Chg F w w9 := hfa _ (List.mem_of_getElem? (i := 3) rfl) (Nat.le_refl _)
        have S9 : ∀ x ∈ ps, w9.heap[x.2]? = w.heap[x.2]? ∧ x.2 < w9.heap.size := hfa _ (List.mem_of_getElem? (i := 4) rfl) (Nat.le_refl _)
        rw [HAT.out] at hO9
        obtain ⟨F', hP9, hF1, hF2⟩ := hP.make hk hall2 C9 hb9 hO9 hob9 hbz hbn (fun x hx => (S9 x hx).1)
        have c9 : w9.cell? ⟨r, 2, none⟩ = some (.slice A1 (ps.length + 1) c1) := (hb9.cell 2).trans rfl
        simp only [Reg.sel]
        clear hT hfg hfa hB hO9 hob9 hbz hbn S9 hb9 c2
        go_wp2
        go_ret
        refine .inr (.inr ⟨hall2, by first | rfl | trivial, ?_, F', A1, c1, b, hP9, C9, hF1, hF2⟩)
        rfl
end Go.Proofs.Ytjfmgoickokbjaa
