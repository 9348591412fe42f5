/-
  Walk: report.Lines of a launched result.
-/
import Derived.Test.YtnjfghlgknnhmaaLinesG
namespace Go.Proofs.Ytnjfghlgknnhmaa
open Go.RowKit

set_option maxRecDepth 100000 in
set_option maxHeartbeats 4000000 in
theorem mLines_ok (C : Array Value) (A3 : Option Addr) (n3 c3' : Nat) (ctr : List (Nat × Int)) (hctr : Hid (ctr.length = n3)) (hcok : Hid (∀ r ∈ ctr, ctrOk r)) (hn3 : n3 ≤ 40) (l1 : List (List UInt8))
    (h0 : C[0]? = some (.int .i64 0)) (h3 : C[3]? = some (.slice A3 n3 c3')) (M : List Value) (hM : ∀ j v, M[j]? = some v → C[4 + j]? = some v) (hMs : Hid (M.length = 71))
    (ver : Nat) (fr : Int) (m0 : M.toArray[0]? = some (.int .u32 (ver : Nat))) (m4 : M.toArray[4]? = some (.int .i64 fr)) (D : List UInt8) (hD : Hid (D.length = 64)) (m5 : ∀ j v, (bcells D)[j]? = some v → M.toArray[5 + j]? = some v)
    (A6 A7 : Option Addr) (n6 c6 n7 c7 : Nat) (m69 : M.toArray[69]? = some (.slice A6 n6 c6)) (m70 : M.toArray[70]? = some (.slice A7 n7 c7)) (log : List Rec) (hlog : Hid (log.length = n6)) (hlok : Hid (∀ r ∈ log, r.Ok)) (hn6 : n6 ≤ 40)
    (gst : List Gst) (hgst : Hid (gst.length = n7)) (hgok : Hid (∀ r ∈ gst, r.Ok)) (hn7 : n7 ≤ 40) (hver : ver < 4294967296) (hfr : Hid (inI fr)) (Hl1 : Hid (l1 = manLines ver fr D log gst)) (w : World)
    (hR3 : Rd w w.heap.size 2 A3 n3 (ctr.map ctrCells).flatten) (hR6 : Rd w w.heap.size 35 A6 n6 (log.map recCells).flatten) (hR7 : Rd w w.heap.size 6 A7 n7 (gst.map gstCells).flatten) :
    Calls Try.prog 39 #[.agg C] w fun e w' => ∃ A c, e = .returned (.slice A (l1 ++ ctrLines ctr n3).length c) ∧ Rd w' w'.heap.size 1 A (l1 ++ ctrLines ctr n3).length ((l1 ++ ctrLines ctr n3).map strV) ∧ Below w.heap.size w w' := by
  have hb0 := (Blk.new w 77 C)
  have hbx := hb0.alloc (.cells #[.slice none 0 0] 123)
  have c0' := (hbx.cell 0).trans h0
  have hpg : Blk ((w.alloc (.cells C 77)).alloc (.cells #[.slice none 0 0] 123)) (w.heap.size + 1) 123 #[.slice none 0 0] := new1 w _ _ _
  have hB1 : Below w.heap.size w ((w.alloc (.cells C 77)).alloc (.cells #[.slice none 0 0] 123)) := ((Below.refl _ _).alloc (Nat.le_refl _) _).alloc (by rw [size_alloc1]; omega) _
  have hrg : ((w.alloc (.cells C 77)).alloc (.cells #[.slice none 0 0] 123)).rangeAt w.heap.size 4 M := fun j v hv => by rw [hbx.cell]; exact hM j v hv
  clear hb0
  go_enter Try.func39, Try.ntmps39
  go_wp2_with ((with_reducible refine at_load 75 ?_); refine wpList_load_mid rfl 75 _ rfl w.heap.size 4 rfl M _ hrg Try.underlying75 rfl (by rw [hMs.out]; kernel_rfl) ?_)
  generalize (w.alloc (.cells C 77)).alloc (.cells #[.slice none 0 0] 123) = W1 at *
  refine (manifest_any (w.heap.size + 1) [] M.toArray ver fr m0 m4 D hD m5 A6 A7 n6 c6 n7 c7 m69 m70 log hlog hlok hn6 gst hgst hgok hn7 hver hfr (by simp) W1 ⟨none, 0, hpg, World.ownsRow_nil _ _ _ _⟩ hpg.lt ((hR6.below hB1).more (Nat.le_succ _)) ((hR7.below hB1).more (Nat.le_succ _))).mono ?_
  rintro e w9 ⟨rfl, hpg, hB9⟩
  rw [List.nil_append, ← Hl1.out] at hpg
  have B9 := hB1.trans (hB9.mono (Nat.le_succ _))
  have c39 := ((hbx.below hB9 (Nat.lt_succ_self _)).cell 3).trans h3
  have hl1 : Hid (l1.length ≤ 300) := Lib.hid (by rw [Hl1.out]; simp only [manLines, List.length_append, regLines_len, List.length_map, hlog.out, hgst.out]; simp; omega)
  clear hbx c0' hB1 hrg hB9
  go_wp2_with fail
  clear c39
  go_loopw [32] (fun i wr => ∃ k : Nat, k ≤ n3 ∧ i = .int .i64 k ∧ Pg (w.heap.size + 1) (l1 ++ ctrLines ctr k) wr ∧ Below w.heap.size w wr ∧ Below (w.heap.size + 1) w9 wr) (fun i _ => n3 - (intOf i).toNat)
  case atStart => exact ⟨0, Nat.zero_le _, rfl, by simpa [ctrLines] using hpg, B9, Below.refl _ _⟩
  case round =>
    clear hpg B9
    obtain ⟨k, hk, rfl, hpk, hBk, hBq⟩ := hrel
    have hlk : Hid ((l1 ++ ctrLines ctr k).length ≤ 400) := Lib.hid (by rw [List.length_append, ctrLines_len]; have := hl1.out; omega)
    by_cases hk2 : k < n3
    · have hkl : k < ctr.length := by rw [hctr.out]; exact hk2
      obtain ⟨b, o, rfl, hbG, hrg⟩ := (hR3.below hBk).range (by omega)
      obtain ⟨r, hrd⟩ : ∃ r, r = ctr[k] := ⟨_, rfl⟩
      have hr : Hid (ctrOk r) := Lib.hid (by rw [hrd]; exact hcok.out _ (List.getElem_mem hkl))
      have hrr := range_row ctrCells 2 ctr o (fun x _ => rfl) hrg k hkl
      rw [← hrd] at hrr
      have Hr := Lib.hid hrd
      obtain ⟨lk, hlkd⟩ : ∃ lk, lk = l1 ++ ctrLines ctr k := ⟨_, rfl⟩
      have Hlk := Lib.hid hlkd
      rw [← hlkd] at hpk hlk
      clear hrd hlkd hrg
      have hGk : w.heap.size + 1 ≤ wr.heap.size := Nat.le_of_lt hpk.lt
      go_upto_region 8 with (first
        | ((with_reducible refine at_load 127 ?_); refine wpList_load_mid rfl 127 _ rfl b (o + k * 2) rfl (ctrCells r) _ hrr Try.underlying127 rfl (by kernel_rfl) ?_)
        | ((with_reducible refine at_store 127 ?_); refine wpList_storeAll _ rfl 127 _ _ rfl wr.heap.size 127 _ (ctrCells r).toArray (Blk.new wr _ _) rfl rfl rfl (by kernel_rfl) (ctrCells_one r) ?_; intro W3 hy hg3 hs3; have C3 := (Chg.of_ext (Z := fun b => b = wr.heap.size) ((Ext.refl wr).alloc _)).trans (Chg.grown hg3 (by rintro k h; cases h; rfl))))
      simp only [Act.put]
      have hpk := hpk.own1 C3
      have B3 : Below w.heap.size w W3 := hBk.trans (C3.below (n := w.heap.size) (fun j e => by have e2 : j = wr.heap.size := e; omega) (by omega))
      have B4 : Below (w.heap.size + 1) w9 W3 := hBq.trans (C3.below (n := w.heap.size + 1) (fun j e => by have e2 : j = wr.heap.size := e; omega) hGk)
      have hsz : w.heap.size + 1 ≤ W3.drew.heap.size := Nat.le_of_lt hpk.drew.lt
      have hlk : lk.length ≤ 1000 := by have := hlk.out; omega
      have hcg : IntKind.i64.wrap (r.1 : Int) = (r.1 : Int) := IntWalk.i64_in _ (by have := hr.out.1; omega)
      clear hg3 hs3 C3 hBk hBq hrr
      refine Flow.wp_region_flow (w.heap.size + 1) [(13, fun b => w.heap.size + 1 ≤ b)] [(6, fun W => Blk W wr.heap.size 127 (ctrCells r).toArray), (10, fun W => Blk W wr.heap.size 127 (ctrCells r).toArray), (13, fun W => Pg (w.heap.size + 1) lk W)] (by kernel_rfl) (by kernel_rfl) hsz (Flow.nz_cons (fun _ h => h) Flow.nz_nil) (Flow.facts_cons (hy.drew) (fun _ _ c h => h.chg c id) (Flow.fz_cons (Flow.no_follow (by kernel_rfl)) Flow.fz_nil) (Flow.facts_cons (hy.drew) (fun _ _ c h => h.chg c id) (Flow.fz_cons (Flow.no_follow (by kernel_rfl)) Flow.fz_nil) (Flow.facts_cons (hpk.drew) (fun _ _ c h => h.ext c) (Flow.fz_cons (Flow.no_follow (by kernel_rfl)) Flow.fz_nil) Flow.facts_nil))) ?_
      refine Flow.pass_old 3 (Flow.met_none rfl) (.inl rfl) (by kernel_rfl) (by kernel_rfl) rfl ?_
      refine Flow.pass_val (.pointer (some ⟨w.heap.size + 1, 0, none⟩)) (Flow.met_none rfl) (fun a W hH => ?_) ?_
      · have e0 := Flow.see_new 37 0 hH.sees (by kernel_rfl) (by kernel_rfl) rfl rfl
        go_simp
      apply Flow.pass_val (hm := (Flow.met_none rfl))
      · intro a W hH
        have e0 := Flow.see_new 38 1 hH.sees (by kernel_rfl) (by kernel_rfl) rfl rfl
        go_simp; first | done | rfl
      refine Flow.pass_old 4 (Flow.met_none rfl) (.inl rfl) (by kernel_rfl) (by kernel_rfl) rfl ?_
      refine Flow.pass_step (Reg.eqs (.string ⟨(digStr (k : Nat)).toArray⟩)) (fun _ _ => Flow.kept_eqs _ _) (Flow.met_none rfl) (fun a W hH => ?_) ?_
      · have e0 := Flow.see_new 40 3 hH.sees (by kernel_rfl) (by kernel_rfl) rfl rfl
        refine Reg.wp_call rfl Try.func41 rfl (by kernel_rfl) (by simp [Act.eval, e0]) (mDigits_any (k : Nat) (by omega) (by omega) W) ?_
        rintro e w' ⟨rfl, hB⟩
        exact ⟨_, rfl, _, rfl, hB, rfl⟩
      apply Flow.pass_val (hm := (Flow.met_none rfl))
      · intro a W hH
        have e0 := Flow.see_old 5 hH.sees (by kernel_rfl) (by kernel_rfl) rfl
        go_simp; first | done | rfl
      refine Flow.pass_val (.int .u32 (r.1 : Nat)) (Flow.met_none rfl) (fun a W hH => ?_) ?_
      · have e0 := Flow.see_new 42 5 hH.sees (by kernel_rfl) (by kernel_rfl) rfl rfl
        have fa0 : (fun W => Blk W wr.heap.size 127 (ctrCells r).toArray) W := hH.fact _ (List.mem_of_getElem? (i := 0) rfl) rfl
        have c := fa0.cell 0; simp only [ctrCells] at c; go_simp
      refine Flow.pass_val (.int .i64 (r.1 : Nat)) (Flow.met_none rfl) (fun a W hH => ?_) ?_
      · have e0 := Flow.see_new 43 6 hH.sees (by kernel_rfl) (by kernel_rfl) rfl rfl
        go_simp; first | done | exact hcg
      refine Flow.pass_step (Reg.eqs (.string ⟨(digStr (r.1 : Nat)).toArray⟩)) (fun _ _ => Flow.kept_eqs _ _) (Flow.met_none rfl) (fun a W hH => ?_) ?_
      · have e0 := Flow.see_new 44 7 hH.sees (by kernel_rfl) (by kernel_rfl) rfl rfl
        refine Reg.wp_call rfl Try.func41 rfl (by kernel_rfl) (by simp [Act.eval, e0]) (mDigits_any (r.1 : Nat) (by have := hr.out.1; omega) (by have := hr.out.1; omega) W) ?_
        rintro e w' ⟨rfl, hB⟩
        exact ⟨_, rfl, _, rfl, hB, rfl⟩
      apply Flow.pass_val (hm := (Flow.met_none rfl))
      · intro a W hH
        have e0 := Flow.see_old 5 hH.sees (by kernel_rfl) (by kernel_rfl) rfl
        go_simp; first | done | rfl
      refine Flow.pass_val (.int .i64 r.2) (Flow.met_none rfl) (fun a W hH => ?_) ?_
      · have e0 := Flow.see_new 46 9 hH.sees (by kernel_rfl) (by kernel_rfl) rfl rfl
        have fa1 : (fun W => Blk W wr.heap.size 127 (ctrCells r).toArray) W := hH.fact _ (List.mem_of_getElem? (i := 1) rfl) rfl
        have c := fa1.cell 1; simp only [ctrCells] at c; go_simp
      refine Flow.pass_step (Reg.eqs (.string ⟨(nameOf r.2).toArray⟩)) (fun _ _ => Flow.kept_eqs _ _) (Flow.met_none rfl) (fun a W hH => ?_) ?_
      · have e0 := Flow.see_new 47 10 hH.sees (by kernel_rfl) (by kernel_rfl) rfl rfl
        refine Reg.wp_call rfl Try.func47 rfl (by kernel_rfl) (by simp [Act.eval, e0]) (mName_any r.2 hr.out.2.1 hr.out.2.2 W) ?_
        rintro e w' ⟨rfl, hB⟩
        exact ⟨_, rfl, _, rfl, hB, rfl⟩
      refine Flow.pass_lin [13] (fun v W => ∃ b, v = .slice (some ⟨b, 0, none⟩) 4 4 ∧ Blk W b 9 ((ctrW k r).map strV).toArray) (Flow.kept_lin [13] (fun _ _ _ c ⟨b, h1, h2⟩ => ⟨b, h1, h2.chg c id⟩) (Flow.lz_cons (fun _ => .inl rfl) Flow.lz_nil)) (Flow.met_none rfl) (fun a W hH => ?_) ?_
      · have e0 := Flow.see_new 41 4 hH.sees (by kernel_rfl) (by kernel_rfl) rfl rfl
        have e1 := Flow.see_new 45 8 hH.sees (by kernel_rfl) (by kernel_rfl) rfl rfl
        have e2 := Flow.see_new 48 11 hH.sees (by kernel_rfl) (by kernel_rfl) rfl rfl
        refine Flow.wp_run (Flow.reg_buildSlice _ rfl (by simp [Act.eval, strV, e0, e1, e2]) (run_strs W 4 (ctrW k r) _ rfl (by decide) (by decide) rfl)) ?_
        exact ⟨_, rfl, Chg.of_ext ((Ext.refl W).alloc _), W.heap.size, rfl, Blk.new _ _ _⟩
      refine Flow.pass_gen (fun v W => v = .tuple #[] ∧ Pg (w.heap.size + 1) (lk ++ [joinWs (ctrW k r)]) W) (Flow.kept_of (fun _ _ _ c ⟨h0, h1⟩ => ⟨h0, h1.ext c⟩) (Flow.kz_cons (Flow.no_follow (by kernel_rfl)) Flow.kz_nil)) (Flow.met_none rfl) (fun a W hH => ?_) ?_
      · have e0 := Flow.see_new 39 2 hH.sees (by kernel_rfl) (by kernel_rfl) rfl rfl
        obtain ⟨b1, e1, q1⟩ := Flow.see_lin 49 12 hH.sees (by kernel_rfl) (by kernel_rfl) rfl rfl (by kernel_rfl)
        have fa2 : (fun W => Pg (w.heap.size + 1) lk W) W := hH.fact _ (List.mem_of_getElem? (i := 2) rfl) rfl
        refine Flow.wp_callZ rfl Try.func64 rfl (by kernel_rfl) (by simp [Act.eval, e0, e1]) (put_pg (w.heap.size + 1) b1 lk (ctrW k r) W fa2 q1 hlk 4 (Lib.hid rfl) (by omega) (ctrW_len k r (by omega) hr.out)) ?_
        rintro e w' ⟨rfl, h1, hB, _⟩
        exact ⟨_, rfl, Chg.of_below hB (fun k hk _ => hk), rfl, h1⟩
      refine Flow.pass_end [none, none, none, none, none, none, none, none, none, none, none, none, none, none, none, none, none, none, none, none, none, none, none, none, none, none, none, none, none, none, none, none, none, none, none, none, none, some 37, some 38, some 39, some 40, some 41, some 42, some 43, some 44, some 45, some 46, some 47, some 48, some 49, some 50, none, none, none, none, none, none] (by kernel_rfl) ?_
      intro f gg w9 hB hfa hT hfg
      have h50 := hT 13 _ (by kernel_rfl) rfl
      rw [← hfg 50 13 (by kernel_rfl)] at h50
      obtain ⟨_, hpk⟩ := h50
      have B9 := B3.drew.trans (hB.mono (Nat.le_succ _))
      have B8 := B4.drew.trans hB
      clear hfa hT hfg hB B3 B4 hy
      simp only [Reg.sel]
      go_wp2
      go_roundw
      case rel => ((try ((repeat apply Exists.intro); refine ⟨?_, rfl⟩)); exact ⟨k + 1, by omega, by go_num, by rw [ctrLines_succ ctr k hkl, ← List.append_assoc, ← Hlk.out, ← Hr.out]; exact hpk, B9, B8⟩)
      case measure => simp [intOf]; omega
    · have hke : k = n3 := by omega
      subst hke
      obtain ⟨A4, c4, hb4, ho4⟩ := hpk
      have cp := hb4.cell 0
      go_wp2
      go_ret
      exact ⟨A4, c4, by rw [List.length_append]; rfl, Rd.of_own ho4, hBk⟩
end Go.Proofs.Ytnjfghlgknnhmaa
