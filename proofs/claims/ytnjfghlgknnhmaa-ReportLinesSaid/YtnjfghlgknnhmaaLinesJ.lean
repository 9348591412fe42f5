/-
  Walk: portreeveref29.Lines of a launched result.
-/
import Derived.Test.YtnjfghlgknnhmaaLinesI
import Derived.Test.YtnjfghlgknnhmaaLinesH
namespace Go.Proofs.Ytnjfghlgknnhmaa
open Go.RowKit

theorem _root_.Go.World.rangeAt.later {w w' : World} {B b off : Nat} {cs : List Value} (h : w.rangeAt b off cs) (hB : Below B w w') (hb : b < B) : w'.rangeAt b off cs := fun j v hv => (hB.cell (p := ⟨b, off + j, none⟩) hb).trans (h j v hv)
theorem rd_of_range {w : World} {g o n : Nat} {l : List UInt8} (h : w.rangeAt g o (bcells l)) (hg : g < w.heap.size) (hl : l.length = n) : Rd w w.heap.size 1 (some ⟨g, o, none⟩) n (bcells l) :=
  ⟨by rw [bcells_length, hl]; omega, fun k v hv => ⟨_, rfl, hg, by rw [addrD_lit]; exact h k v hv⟩⟩
theorem node_range {w : World} {g o : Nat} {D : List UInt8} (h : w.rangeAt g o (bcells D)) (k : Nat) : w.rangeAt g (o + k * 32) (bcells (nodeAt D k)) := fun j v hv => by
  have hj : (bcells (nodeAt D k)) = ((bcells D).drop (k * 32)).take 32 := by simp [bcells, nodeAt, List.map_drop, List.map_take]
  rw [hj, List.getElem?_take] at hv
  split at hv
  · rw [List.getElem?_drop] at hv
    rw [show o + k * 32 + j = o + (k * 32 + j) by omega]; exact h _ v hv
  · cases hv

set_option maxRecDepth 100000 in
set_option maxHeartbeats 4000000 in
theorem rLines_ok (C : Array Value) (A3 : Option Addr) (n3 c3' : Nat) (ctr : List (Nat × Int)) (hctr : Hid (ctr.length = n3)) (hcok : Hid (∀ r ∈ ctr, ctrOk r)) (hn3 : n3 ≤ 40) (l1 : List (List UInt8))
    (h0 : C[0]? = some (.int .i64 0)) (g3 : C[3]? = some (.slice A3 n3 c3'))
    (ver : Nat) (fr : Int) (m0 : C[4]? = some (.int .u32 (ver : Nat))) (m4 : C[8]? = some (.int .i64 fr)) (D : List UInt8) (hD : Hid (D.length = 64)) (m5 : ∀ j v, (bcells D)[j]? = some v → C[9 + j]? = some v)
    (A6 A7 : Option Addr) (n6 c6 n7 c7 : Nat) (m69 : C[73]? = some (.slice A6 n6 c6)) (m70 : C[74]? = some (.slice A7 n7 c7)) (log : List Rec) (hlog : Hid (log.length = n6)) (hlok : Hid (∀ r ∈ log, r.Ok)) (hn6 : n6 ≤ 40)
    (gst : List Gst) (hgst : Hid (gst.length = n7)) (hgok : Hid (∀ r ∈ gst, r.Ok)) (hn7 : n7 ≤ 40) (hver : ver < 4294967296) (hfr : Hid (inI fr)) (Hl1 : Hid (l1 = manLines ver fr D log gst)) (w : World)
    (hR3 : Rd w w.heap.size 2 A3 n3 (ctr.map ctrCells).flatten) (hR6 : Rd w w.heap.size 35 A6 n6 (log.map recCells).flatten) (hR7 : Rd w w.heap.size 6 A7 n7 (gst.map gstCells).flatten) :
    Calls Try.prog 40 #[.agg C] w fun e w' => ∃ A c, e = .returned (.slice A (l1 ++ ctrLines ctr n3).length c) ∧ Rd w' w'.heap.size 1 A (l1 ++ ctrLines ctr n3).length ((l1 ++ ctrLines ctr n3).map strV) ∧ Below w.heap.size w w' := by
  have hbx := (Blk.new w 77 C)
  have c0 := (hbx.cell 0).trans h0
  have hB1 : Below w.heap.size w (w.alloc (.cells C 77)) := (Below.refl _ _).alloc (Nat.le_refl _) _
  have hcv : IntKind.i64.wrap (ver : Int) = (ver : Int) := IntWalk.i64_in _ (by omega)
  go_enter Try.func40, Try.ntmps40
  go_wp2_with fail
  generalize w.alloc (.cells C 77) = W1 at *
  have hsz : w.heap.size + 1 ≤ W1.drew.heap.size := hbx.drew.lt
  refine Flow.wp_region_flow (w.heap.size + 1) [(13, fun b => w.heap.size + 1 ≤ b)] [(13, fun W => W.ownsRow (w.heap.size + 1) 9 1 (.slice none 0 0) 0 (List.map strV []))] (by kernel_rfl) (by kernel_rfl) hsz (Flow.nz_cons (fun _ h => h) Flow.nz_nil) (Flow.facts_cons (World.ownsRow_nil _ _ _ _) (fun _ _ c h => own_chg h c (fun _ _ => id)) (Flow.fz_cons (Flow.no_follow (by kernel_rfl)) Flow.fz_nil) Flow.facts_nil) ?_
  refine Flow.pass_old 3 (Flow.met_none rfl) (.inl rfl) (by kernel_rfl) (by kernel_rfl) rfl ?_
  apply Flow.pass_val (hm := (Flow.met_none rfl))
  · intro a W hH
    have e0 := Flow.see_old 1 hH.sees (by kernel_rfl) (by kernel_rfl) rfl
    go_simp; first | done | rfl
  apply Flow.pass_val (hm := (Flow.met_none rfl))
  · intro a W hH
    have e0 := Flow.see_new 30 1 hH.sees (by kernel_rfl) (by kernel_rfl) rfl rfl
    go_simp; first | done | rfl
  refine Flow.pass_val (.int .u32 (ver : Nat)) (Flow.met_none rfl) (fun a W hH => ?_) ?_
  · have e0 := Flow.see_new 31 2 hH.sees (by kernel_rfl) (by kernel_rfl) rfl rfl
    have c := ((hbx.drew.below hH.below (Nat.lt_succ_self _)).cell 4).trans m0; go_simp
  refine Flow.pass_val (.int .i64 (ver : Nat)) (Flow.met_none rfl) (fun a W hH => ?_) ?_
  · have e0 := Flow.see_new 32 3 hH.sees (by kernel_rfl) (by kernel_rfl) rfl rfl
    go_simp; first | done | exact hcv
  refine Flow.pass_step (Reg.eqs (.string ⟨(digStr (ver : Nat)).toArray⟩)) (fun _ _ => Flow.kept_eqs _ _) (Flow.met_none rfl) (fun a W hH => ?_) ?_
  · have e0 := Flow.see_new 33 4 hH.sees (by kernel_rfl) (by kernel_rfl) rfl rfl
    refine Reg.wp_call rfl Try.func42 rfl (by kernel_rfl) (by simp [Act.eval, e0]) (rDigits_any (ver : Nat) (by omega) (by omega) W) ?_
    rintro e w' ⟨rfl, rfl⟩
    exact ⟨_, rfl, _, rfl, Below.refl _ _, rfl⟩
  apply Flow.pass_val (hm := (Flow.met_none rfl))
  · intro a W hH
    have e0 := Flow.see_old 1 hH.sees (by kernel_rfl) (by kernel_rfl) rfl
    go_simp; first | done | rfl
  apply Flow.pass_val (hm := (Flow.met_none rfl))
  · intro a W hH
    have e0 := Flow.see_new 35 6 hH.sees (by kernel_rfl) (by kernel_rfl) rfl rfl
    go_simp; first | done | rfl
  refine Flow.pass_val (.int .i64 fr) (Flow.met_none rfl) (fun a W hH => ?_) ?_
  · have e0 := Flow.see_new 36 7 hH.sees (by kernel_rfl) (by kernel_rfl) rfl rfl
    have c := ((hbx.drew.below hH.below (Nat.lt_succ_self _)).cell 8).trans m4; go_simp
  refine Flow.pass_step (Reg.eqs (.string ⟨(digStr fr).toArray⟩)) (fun _ _ => Flow.kept_eqs _ _) (Flow.met_none rfl) (fun a W hH => ?_) ?_
  · have e0 := Flow.see_new 37 8 hH.sees (by kernel_rfl) (by kernel_rfl) rfl rfl
    refine Reg.wp_call rfl Try.func42 rfl (by kernel_rfl) (by simp [Act.eval, e0]) (rDigits_any fr hfr.out.1 hfr.out.2 W) ?_
    rintro e w' ⟨rfl, rfl⟩
    exact ⟨_, rfl, _, rfl, Below.refl _ _, rfl⟩
  refine Flow.pass_lin [13] (fun v W => ∃ b, v = .slice (some ⟨b, 0, none⟩) 5 5 ∧ Blk W b 9 ((manW ver fr).map strV).toArray) (Flow.kept_lin [13] (fun _ _ _ c ⟨b, h1, h2⟩ => ⟨b, h1, h2.chg c id⟩) (Flow.lz_cons (fun _ => .inl rfl) Flow.lz_nil)) (Flow.met_none rfl) (fun a W hH => ?_) ?_
  · have e0 := Flow.see_new 34 5 hH.sees (by kernel_rfl) (by kernel_rfl) rfl rfl
    have e1 := Flow.see_new 38 9 hH.sees (by kernel_rfl) (by kernel_rfl) rfl rfl
    refine Flow.wp_run (Flow.reg_buildSlice _ rfl (by simp [Act.eval, strV, e0, e1]) (run_strs W 5 (manW ver fr) _ rfl (by decide) (by decide) rfl)) ?_
    exact ⟨_, rfl, Chg.of_ext ((Ext.refl W).alloc _), W.heap.size, rfl, Blk.new _ _ _⟩
  refine Flow.pass_step (Reg.eqs (.string ⟨(joinWs (manW ver fr)).toArray⟩)) (fun _ _ => Flow.kept_eqs _ _) (Flow.met_none rfl) (fun a W hH => ?_) ?_
  · obtain ⟨b0, e0, q0⟩ := Flow.see_lin 39 10 hH.sees (by kernel_rfl) (by kernel_rfl) rfl rfl (by kernel_rfl)
    refine Reg.wp_call rfl Try.func66 rfl (by kernel_rfl) (by simp [Act.eval, e0]) (join_any b0 (manW ver fr) W q0 5 (Lib.hid rfl) (by omega) (manW_len ver fr hver hfr.out)) ?_
    rintro e w' ⟨rfl, rfl⟩
    exact ⟨_, rfl, _, rfl, Below.refl _ _, rfl⟩
  refine Flow.pass_lin [13] (fun v W => ∃ b, v = .slice (some ⟨b, 0, none⟩) 1 1 ∧ Blk W b 9 #[strV (joinWs (manW ver fr))]) (Flow.kept_lin [13] (fun _ _ _ c ⟨b, h1, h2⟩ => ⟨b, h1, h2.chg c id⟩) (Flow.lz_cons (fun _ => .inl rfl) Flow.lz_nil)) (Flow.met_none rfl) (fun a W hH => ?_) ?_
  · have e0 := Flow.see_new 40 11 hH.sees (by kernel_rfl) (by kernel_rfl) rfl rfl
    refine Flow.wp_run (Flow.reg_buildSlice #[(0, .string ⟨(joinWs (manW ver fr)).toArray⟩)] rfl (by simp [Act.eval, e0]) (run_str1 W (joinWs (manW ver fr)))) ?_
    exact ⟨_, rfl, Chg.of_ext ((Ext.refl W).alloc _), W.heap.size, rfl, Blk.new _ _ _⟩
  refine Flow.pass_list (fun v W => Ls (w.heap.size + 1) (([] : List (List UInt8)) ++ [(joinWs (manW ver fr))]) v W) (Flow.kept_of (fun _ _ _ c h => h.chg0 c) (Flow.kz_cons (Flow.no_follow (by kernel_rfl)) Flow.kz_nil)) (Flow.met_none rfl) (fun a W hH => ?_) ?_
  · have e0 := Flow.see_new 29 0 hH.sees (by kernel_rfl) (by kernel_rfl) rfl rfl
    obtain ⟨b1, e1, q1⟩ := Flow.see_lin 41 12 hH.sees (by kernel_rfl) (by kernel_rfl) rfl rfl (by kernel_rfl)
    have fa0 : (fun W => W.ownsRow (w.heap.size + 1) 9 1 (.slice none 0 0) 0 (List.map strV [])) W := hH.fact _ (List.mem_of_getElem? (i := 0) rfl) rfl
    refine wpList_app W elS rfl _ _ rfl (w.heap.size + 1) none (0) 0 _ (by simpa [Act.eval] using e0) fa0 _ (some ⟨b1, 0, none⟩) 1 1 [strV (joinWs (manW ver fr))] (by simpa [Act.eval] using e1) (by have := q1.rd (size := 1) (n := 1) (by simp); simpa using this) (by simpa using strV_one [(joinWs (manW ver fr))]) (by omega) (by omega) (Nat.le_trans hsz hH.below.size) ?_
    intro A' c' W2 hO2 hg hB _
    exact Flow.qq_nil ⟨_, rfl, Chg.of_below hB (fun k hk _ => hk), Ls.of hO2⟩
  refine Flow.pass_copy 42 13 (Flow.met_none rfl) (.inr rfl) (by kernel_rfl) (by kernel_rfl) rfl rfl (Flow.kept_of (fun _ _ _ c h => h.chg0 c) (Flow.kz_cons (Flow.no_follow (by kernel_rfl)) Flow.kz_nil)) ?_
  refine Flow.pass_end [none, none, none, some 3, none, none, none, none, none, none, none, none, none, none, none, none, none, none, none, none, none, none, none, none, none, none, none, none, none, some 29, some 30, some 31, some 32, some 33, some 34, some 35, some 36, some 37, some 38, some 39, some 40, some 41, some 42, none, none, none, none, none, none, none, none, none, none, none, none, none, none, none, none, none, none, none, none, none, none, none, none, none, none, none, none, none, none, none, none, none, none, none, none, none, none, none, none, none, none, none, none, none, none, none, none, none, none, none, none, none, none, none, none, none, none, none, none, none, none, none, none, none, none, none, none, none, none, none, none, none, none, none, none, none, none, none, none, none, none, none, none, none, none, none, none, none, none, none, none, none, none, none, none, none, none, none, none, none, none, none, none, none, none, none] (by kernel_rfl) ?_
  intro f gg w9 hB hfa hT hfg
  have h3 := hT 14 _ (by kernel_rfl) rfl
  rw [← hfg 3 14 (by kernel_rfl)] at h3
  obtain ⟨l2, hl2⟩ : ∃ l2, l2 = [joinWs (manW ver fr)] := ⟨_, rfl⟩
  have hls : Ls (w.heap.size + 1) l2 (f 3) w9 := by rw [hl2]; exact h3
  have Hl2 := Lib.hid hl2
  have B9 := hB1.drew.trans (hB.mono (Nat.le_succ _))
  have hs9 : w.heap.size + 1 ≤ w9.heap.size := Nat.le_trans hsz hB.size
  have hbx := hbx.drew.below hB (Nat.lt_succ_self _)
  clear hfa hT hfg hB hsz hB1 h3 hl2 c0
  simp only [Reg.sel]
  go_wp2_with fail
  go_loopw [3, 43] (fun v i wr => ∃ k : Nat, k ≤ 2 ∧ i = .int .i64 k ∧ Ls (w.heap.size + 1) (l2 ++ regLines D k) v wr ∧ Blk wr w.heap.size 77 C ∧ Below w.heap.size w wr ∧ w.heap.size + 1 ≤ wr.heap.size) (fun _ i _ => 2 - (intOf i).toNat)
  case atStart => exact ⟨0, Nat.zero_le _, rfl, by simpa [regLines] using hls, hbx, B9, hs9⟩
  case round =>
    clear hls hbx B9 hs9
    obtain ⟨k, hk, rfl, ⟨A0, c0, rfl, ho⟩, hbx, hBk, hGk⟩ := hrel
    have hlk : Hid ((l2 ++ regLines D k).length ≤ 120) := Lib.hid (by rw [List.length_append, regLines_len, Hl2.out]; simp; omega)
    by_cases hk2 : k < 2
    · obtain ⟨d, hdd⟩ : ∃ d, d = nodeAt D k := ⟨_, rfl⟩
      have hd : Hid (d.length = 32) := Lib.hid (by rw [hdd]; exact nodeAt_len D k (by rw [hD.out]; omega))
      have hrg : wr.rangeAt w.heap.size (9 + k * 32) (bcells d) := by rw [hdd]; exact node_range (fun j v hv => by rw [hbx.cell]; exact m5 j v hv) k
      have Hd := Lib.hid hdd
      obtain ⟨lk, hlkd⟩ : ∃ lk, lk = l2 ++ regLines D k := ⟨_, rfl⟩
      have Hlk := Lib.hid hlkd
      rw [← hlkd] at ho hlk ⊢
      clear hdd hlkd
      go_upto_region 8 with (fail)
      have hsz : w.heap.size + 1 ≤ wr.drew.heap.size := hGk
      have hlk : lk.length ≤ 1000 := by have := hlk.out; omega
      refine Flow.wp_region_flow (w.heap.size + 1) [(12, fun b => w.heap.size + 1 ≤ b)] [(12, fun W => W.ownsRow (w.heap.size + 1) 9 1 (.slice A0 lk.length c0) lk.length (lk.map strV))] (by kernel_rfl) (by kernel_rfl) hsz (Flow.nz_cons (fun _ h => h) Flow.nz_nil) (Flow.facts_cons (ho.drew) (fun _ _ c h => own_chg h c (fun _ _ => id)) (Flow.fz_cons (Flow.no_follow (by kernel_rfl)) Flow.fz_nil) Flow.facts_nil) ?_
      refine Flow.pass_old 3 (Flow.met_none rfl) (.inl rfl) (by kernel_rfl) (by kernel_rfl) rfl ?_
      refine Flow.pass_old 4 (Flow.met_none rfl) (.inl rfl) (by kernel_rfl) (by kernel_rfl) rfl ?_
      refine Flow.pass_step (Reg.eqs (.string ⟨(digStr (k : Nat)).toArray⟩)) (fun _ _ => Flow.kept_eqs _ _) (Flow.met_none rfl) (fun a W hH => ?_) ?_
      · have e0 := Flow.see_new 47 1 hH.sees (by kernel_rfl) (by kernel_rfl) rfl rfl
        refine Reg.wp_call rfl Try.func42 rfl (by kernel_rfl) (by simp [Act.eval, e0]) (rDigits_any (k : Nat) (by omega) (by omega) W) ?_
        rintro e w' ⟨rfl, rfl⟩
        exact ⟨_, rfl, _, rfl, Below.refl _ _, rfl⟩
      refine Flow.pass_old 4 (Flow.met_none rfl) (.inl rfl) (by kernel_rfl) (by kernel_rfl) rfl ?_
      apply Flow.pass_val (hm := (Flow.met_none rfl))
      · intro a W hH
        have e0 := Flow.see_old 1 hH.sees (by kernel_rfl) (by kernel_rfl) rfl
        go_simp; first | done | rfl
      apply Flow.pass_val (hm := (Flow.met_none rfl))
      · intro a W hH
        have e0 := Flow.see_new 50 4 hH.sees (by kernel_rfl) (by kernel_rfl) rfl rfl
        go_simp; first | done | rfl
      refine Flow.pass_val (.pointer (some ⟨w.heap.size, 9 + k * 32, none⟩)) (Flow.met_none rfl) (fun a W hH => ?_) ?_
      · have e0 := Flow.see_new 51 5 hH.sees (by kernel_rfl) (by kernel_rfl) rfl rfl
        have e1 := Flow.see_new 49 3 hH.sees (by kernel_rfl) (by kernel_rfl) rfl rfl
        go_simp
      refine Flow.pass_val ((.slice (some ⟨w.heap.size, 9 + k * 32, none⟩) 32 32)) (Flow.met_none rfl) (fun a W hH => ?_) ?_
      · have e0 := Flow.see_new 52 6 hH.sees (by kernel_rfl) (by kernel_rfl) rfl rfl
        go_simp; first | done | rfl
      refine Flow.pass_step (Reg.eqs (.string ⟨(hexL d).toArray⟩)) (fun _ _ => Flow.kept_eqs _ _) (Flow.met_none rfl) (fun a W hH => ?_) ?_
      · have e0 := Flow.see_new 53 7 hH.sees (by kernel_rfl) (by kernel_rfl) rfl rfl
        refine Reg.wp_call rfl Try.func44 rfl (by kernel_rfl) (by simp [Act.eval, e0]) (rDigits16_any (some ⟨w.heap.size, 9 + k * 32, none⟩) 32 32 d W (rd_of_range ((show wr.drew.rangeAt w.heap.size (9 + k * 32) (bcells d) from hrg).later hH.below (Nat.lt_succ_self _)) (hbx.drew.below hH.below (Nat.lt_succ_self _)).lt hd.out) (by omega)) ?_
        rintro e w' ⟨rfl, hB⟩
        exact ⟨_, rfl, _, rfl, hB, rfl⟩
      refine Flow.pass_lin [12] (fun v W => ∃ b, v = .slice (some ⟨b, 0, none⟩) 3 3 ∧ Blk W b 9 ((regW k d).map strV).toArray) (Flow.kept_lin [12] (fun _ _ _ c ⟨b, h1, h2⟩ => ⟨b, h1, h2.chg c id⟩) (Flow.lz_cons (fun _ => .inl rfl) Flow.lz_nil)) (Flow.met_none rfl) (fun a W hH => ?_) ?_
      · have e0 := Flow.see_new 48 2 hH.sees (by kernel_rfl) (by kernel_rfl) rfl rfl
        have e1 := Flow.see_new 54 8 hH.sees (by kernel_rfl) (by kernel_rfl) rfl rfl
        refine Flow.wp_run (Flow.reg_buildSlice _ rfl (by simp [Act.eval, strV, e0, e1]) (run_strs W 3 (regW k d) _ rfl (by decide) (by decide) rfl)) ?_
        exact ⟨_, rfl, Chg.of_ext ((Ext.refl W).alloc _), W.heap.size, rfl, Blk.new _ _ _⟩
      refine Flow.pass_step (Reg.eqs (.string ⟨(joinWs (regW k d)).toArray⟩)) (fun _ _ => Flow.kept_eqs _ _) (Flow.met_none rfl) (fun a W hH => ?_) ?_
      · obtain ⟨b0, e0, q0⟩ := Flow.see_lin 55 9 hH.sees (by kernel_rfl) (by kernel_rfl) rfl rfl (by kernel_rfl)
        refine Reg.wp_call rfl Try.func66 rfl (by kernel_rfl) (by simp [Act.eval, e0]) (join_any b0 (regW k d) W q0 3 (Lib.hid rfl) (by omega) (regW_len k d (by omega) hd)) ?_
        rintro e w' ⟨rfl, rfl⟩
        exact ⟨_, rfl, _, rfl, Below.refl _ _, rfl⟩
      refine Flow.pass_lin [12] (fun v W => ∃ b, v = .slice (some ⟨b, 0, none⟩) 1 1 ∧ Blk W b 9 #[strV (joinWs (regW k d))]) (Flow.kept_lin [12] (fun _ _ _ c ⟨b, h1, h2⟩ => ⟨b, h1, h2.chg c id⟩) (Flow.lz_cons (fun _ => .inl rfl) Flow.lz_nil)) (Flow.met_none rfl) (fun a W hH => ?_) ?_
      · have e0 := Flow.see_new 56 10 hH.sees (by kernel_rfl) (by kernel_rfl) rfl rfl
        refine Flow.wp_run (Flow.reg_buildSlice #[(0, .string ⟨(joinWs (regW k d)).toArray⟩)] rfl (by simp [Act.eval, e0]) (run_str1 W (joinWs (regW k d)))) ?_
        exact ⟨_, rfl, Chg.of_ext ((Ext.refl W).alloc _), W.heap.size, rfl, Blk.new _ _ _⟩
      refine Flow.pass_list (fun v W => Ls (w.heap.size + 1) (lk ++ [(joinWs (regW k d))]) v W) (Flow.kept_of (fun _ _ _ c h => h.chg0 c) (Flow.kz_cons (Flow.no_follow (by kernel_rfl)) Flow.kz_nil)) (Flow.met_none rfl) (fun a W hH => ?_) ?_
      · have e0 := Flow.see_new 46 0 hH.sees (by kernel_rfl) (by kernel_rfl) rfl rfl
        obtain ⟨b1, e1, q1⟩ := Flow.see_lin 57 11 hH.sees (by kernel_rfl) (by kernel_rfl) rfl rfl (by kernel_rfl)
        have fa0 : (fun W => W.ownsRow (w.heap.size + 1) 9 1 (.slice A0 lk.length c0) lk.length (lk.map strV)) W := hH.fact _ (List.mem_of_getElem? (i := 0) rfl) rfl
        refine wpList_app W elS rfl _ _ rfl (w.heap.size + 1) A0 (lk.length) c0 _ (by simpa [Act.eval] using e0) fa0 _ (some ⟨b1, 0, none⟩) 1 1 [strV (joinWs (regW k d))] (by simpa [Act.eval] using e1) (by have := q1.rd (size := 1) (n := 1) (by simp); simpa using this) (by simpa using strV_one [(joinWs (regW k d))]) (by omega) (by omega) (Nat.le_trans hsz hH.below.size) ?_
        intro A' c' W2 hO2 hg hB _
        exact Flow.qq_nil ⟨_, rfl, Chg.of_below hB (fun k hk _ => hk), Ls.of hO2⟩
      refine Flow.pass_copy 58 12 (Flow.met_none rfl) (.inr rfl) (by kernel_rfl) (by kernel_rfl) rfl rfl (Flow.kept_of (fun _ _ _ c h => h.chg0 c) (Flow.kz_cons (Flow.no_follow (by kernel_rfl)) Flow.kz_nil)) ?_
      refine Flow.pass_end [none, none, none, some 3, none, none, none, none, none, none, none, none, none, none, none, none, none, none, none, none, none, none, none, none, none, none, none, none, none, none, none, none, none, none, none, none, none, none, none, none, none, none, none, none, none, none, some 46, some 47, some 48, some 49, some 50, some 51, some 52, some 53, some 54, some 55, some 56, some 57, some 58, none, none, none, none, none, none, none, none, none, none, none, none, none, none, none, none, none, none, none, none, none, none, none, none, none, none, none, none, none, none, none, none, none, none, none, none, none, none, none, none, none, none, none, none, none, none, none, none, none, none, none, none, none, none, none, none, none, none, none, none, none, none, none, none, none, none, none, none, none, none, none, none, none, none, none, none, none, none, none, none, none, none, none, none, none, none, none, none, none, none, none] (by kernel_rfl) ?_
      intro f gg w9 hB hfa hT hfg
      have h3 := hT 13 _ (by kernel_rfl) rfl
      rw [← hfg 3 13 (by kernel_rfl)] at h3
      have hs9 : w.heap.size + 1 ≤ w9.heap.size := Nat.le_trans hsz hB.size
      have B9 := hBk.drew.trans (hB.mono (Nat.le_succ _))
      have hbx := hbx.drew.below hB (Nat.lt_succ_self _)
      clear hfa hT hfg hB hBk hrg
      obtain ⟨A5, c5, e5, o5⟩ := h3
      rw [List.length_append] at e5
      simp only [Reg.sel, e5]
      go_wp2
      go_roundw
      case rel => ((try ((repeat apply Exists.intro); refine ⟨?_, rfl⟩)); exact ⟨k + 1, by omega, by go_num, by rw [regLines_succ, ← List.append_assoc, ← Hlk.out, ← Hd.out]; exact ⟨A5, c5, by rw [List.length_append], o5⟩, hbx, B9, hs9⟩)
      case measure => simp [intOf]; omega
    · have hke : k = 2 := by omega
      subst hke
      obtain ⟨l3, hl3⟩ : ∃ l3, l3 = l2 ++ regLines D 2 := ⟨_, rfl⟩
      rw [← hl3] at ho hlk ⊢
      have Hl3 := Lib.hid hl3
      clear hl3
      have c73 := (hbx.cell 73).trans m69
      go_wp2_with fail
      have hll3 : Hid (l3.length ≤ 120) := hlk
      clear c73 hlk
      go_loopw [3, 64] (fun v i wr => ∃ k : Nat, k ≤ n6 ∧ i = .int .i64 k ∧ Ls (w.heap.size + 1) (l3 ++ (log.take k).map fun r => joinWs (recW r)) v wr ∧ Blk wr w.heap.size 77 C ∧ Below w.heap.size w wr ∧ w.heap.size + 1 ≤ wr.heap.size) (fun _ i _ => n6 - (intOf i).toNat)
      case atStart => exact ⟨0, Nat.zero_le _, rfl, by rw [List.take_zero, List.map_nil, List.append_nil]; exact ⟨A0, c0, rfl, ho⟩, hbx, hBk, hGk⟩
      case round =>
        clear ho hbx hBk hGk
        obtain ⟨k, hk, rfl, ⟨A0, c0, rfl, ho⟩, hbx, hBk, hGk⟩ := hrel
        have hlk : Hid ((l3 ++ (log.take k).map fun r => joinWs (recW r)).length ≤ 160) := Lib.hid (by simp; have := hll3.out; omega)
        by_cases hk2 : k < n6
        · have hkl : k < log.length := by rw [hlog.out]; exact hk2
          obtain ⟨b, o, rfl, hbG, hrg⟩ := (hR6.below hBk).range (by omega)
          obtain ⟨r, hrd⟩ : ∃ r, r = log[k] := ⟨_, rfl⟩
          have hr : Hid r.Ok := Lib.hid (by rw [hrd]; exact hlok.out _ (List.getElem_mem hkl))
          have hrr := range_row recCells 35 log o (fun x hx => recCells_length x (hlok.out x hx)) hrg k hkl
          rw [← hrd] at hrr
          have Hr := Lib.hid hrd
          obtain ⟨lk, hlkd⟩ : ∃ lk, lk = l3 ++ (log.take k).map fun r => joinWs (recW r) := ⟨_, rfl⟩
          have Hlk := Lib.hid hlkd
          rw [← hlkd] at ho hlk ⊢
          have hcl : Hid ((recCells r).length = 35) := Lib.hid (recCells_length r hr.out)
          clear hrd hlkd hrg
          go_upto_region 14 with (first
            | ((with_reducible refine at_load 130 ?_); refine wpList_load_mid rfl 130 _ rfl b (o + k * 35) rfl (recCells r) _ hrr Try.underlying130 rfl (by rw [hcl.out]; kernel_rfl) ?_)
            | ((with_reducible refine at_store 130 ?_); refine wpList_storeAll _ rfl 130 _ _ rfl wr.heap.size 130 _ (recCells r).toArray (Blk.new wr _ _) rfl rfl (by rw [List.size_toArray, hcl.out]; rfl) (by rw [List.size_toArray, hcl.out]; kernel_rfl) (recCells_one r) ?_; intro W3 hy hg3 hs3; have C3 := (Chg.of_ext (Z := fun b => b = wr.heap.size) ((Ext.refl wr).alloc _)).trans (Chg.grown hg3 (by rintro k h; cases h; rfl))))
          have ho := own_chg ho C3 (fun j hj e => by have := (own_some ho hj).2; omega)
          have hbx := hbx.chg C3 (fun e => by have := hbx.lt; have e2 : w.heap.size = wr.heap.size := e; omega)
          have B3 : Below w.heap.size w W3 := hBk.trans (C3.below (n := w.heap.size) (fun j e => by have e2 : j = wr.heap.size := e; omega) (by omega))
          have hsz : w.heap.size + 1 ≤ W3.drew.heap.size := Nat.le_of_lt (Nat.lt_of_le_of_lt hGk hy.drew.lt)
          have hlk : lk.length ≤ 1000 := by have := hlk.out; omega
          have ck : W3.cell? ⟨wr.heap.size, 0, none⟩ = some (.int .i64 r.kind) := by rw [hy.cell]; rfl
          clear hg3 hs3 C3 hBk hrr
          have hcase : r.kind = 1 ∨ r.kind = 2 ∨ r.kind = 3 ∨ (r.kind ≠ 1 ∧ r.kind ≠ 2 ∧ r.kind ≠ 3) := by omega
          rcases hcase with hk1 | hk1 | hk1 | ⟨n1, n2, n3'⟩
          · have hL : (⟨#[99, 111, 110, 102, 105, 103]⟩ : ByteArray) = ⟨(kindStr r.kind).toArray⟩ := by rw [hk1]; rfl
            have e1 : (r.kind == 1) = true := by rw [hk1]; rfl
            have e2 : (r.kind == 2) = false := by rw [hk1]; rfl
            have e3 : (r.kind == 3) = false := by rw [hk1]; rfl
            have HL := Lib.hid hL
            clear hL hk1
            go_upto_region 21 with (fail)
            clear e1 e2 e3 ck
            rw [HL.out]
            refine Flow.wp_region_flow (w.heap.size + 1) [(14, fun b => w.heap.size + 1 ≤ b)] [(2, fun W => Blk W wr.heap.size 130 (recCells r).toArray), (6, fun W => Blk W wr.heap.size 130 (recCells r).toArray), (10, fun W => Blk W wr.heap.size 130 (recCells r).toArray), (14, fun W => W.ownsRow (w.heap.size + 1) 9 1 (.slice A0 lk.length c0) lk.length (lk.map strV))] (by kernel_rfl) (by kernel_rfl) hsz (Flow.nz_cons (fun _ h => h) Flow.nz_nil) (Flow.facts_cons (hy.drew) (fun _ _ c h => h.chg c id) (Flow.fz_cons (Flow.no_follow (by kernel_rfl)) Flow.fz_nil) (Flow.facts_cons (hy.drew) (fun _ _ c h => h.chg c id) (Flow.fz_cons (Flow.no_follow (by kernel_rfl)) Flow.fz_nil) (Flow.facts_cons (hy.drew) (fun _ _ c h => h.chg c id) (Flow.fz_cons (Flow.no_follow (by kernel_rfl)) Flow.fz_nil) (Flow.facts_cons (ho.drew) (fun _ _ c h => own_chg h c (fun _ _ => id)) (Flow.fz_cons (Flow.no_follow (by kernel_rfl)) Flow.fz_nil) Flow.facts_nil)))) ?_
            refine Flow.pass_old 3 (Flow.met_none rfl) (.inl rfl) (by kernel_rfl) (by kernel_rfl) rfl ?_
            apply Flow.pass_val (hm := (Flow.met_none rfl))
            · intro a W hH
              have e0 := Flow.see_old 6 hH.sees (by kernel_rfl) (by kernel_rfl) rfl
              go_simp; first | done | rfl
            refine Flow.pass_val (.int .i64 r.idx) (Flow.met_none rfl) (fun a W hH => ?_) ?_
            · have e0 := Flow.see_new 77 1 hH.sees (by kernel_rfl) (by kernel_rfl) rfl rfl
              have fa0 : (fun W => Blk W wr.heap.size 130 (recCells r).toArray) W := hH.fact _ (List.mem_of_getElem? (i := 0) rfl) rfl
              have c := fa0.cell 1; simp only [recCells] at c; go_simp
            refine Flow.pass_step (Reg.eqs (.string ⟨(digStr r.idx).toArray⟩)) (fun _ _ => Flow.kept_eqs _ _) (Flow.met_none rfl) (fun a W hH => ?_) ?_
            · have e0 := Flow.see_new 78 2 hH.sees (by kernel_rfl) (by kernel_rfl) rfl rfl
              refine Reg.wp_call rfl Try.func42 rfl (by kernel_rfl) (by simp [Act.eval, e0]) (rDigits_any r.idx hr.out.idx.1 hr.out.idx.2 W) ?_
              rintro e w' ⟨rfl, rfl⟩
              exact ⟨_, rfl, _, rfl, Below.refl _ _, rfl⟩
            refine Flow.pass_old 7 (Flow.met_none rfl) (.inl rfl) (by kernel_rfl) (by kernel_rfl) rfl ?_
            apply Flow.pass_val (hm := (Flow.met_none rfl))
            · intro a W hH
              have e0 := Flow.see_old 6 hH.sees (by kernel_rfl) (by kernel_rfl) rfl
              go_simp; first | done | rfl
            refine Flow.pass_val (.int .i64 r.err) (Flow.met_none rfl) (fun a W hH => ?_) ?_
            · have e0 := Flow.see_new 81 5 hH.sees (by kernel_rfl) (by kernel_rfl) rfl rfl
              have fa1 : (fun W => Blk W wr.heap.size 130 (recCells r).toArray) W := hH.fact _ (List.mem_of_getElem? (i := 1) rfl) rfl
              have c := fa1.cell 2; simp only [recCells] at c; go_simp
            refine Flow.pass_step (Reg.eqs (.string ⟨(nameOf r.err).toArray⟩)) (fun _ _ => Flow.kept_eqs _ _) (Flow.met_none rfl) (fun a W hH => ?_) ?_
            · have e0 := Flow.see_new 82 6 hH.sees (by kernel_rfl) (by kernel_rfl) rfl rfl
              refine Reg.wp_call rfl Try.func48 rfl (by kernel_rfl) (by simp [Act.eval, e0]) (rName_any r.err hr.out.err.1 hr.out.err.2 W) ?_
              rintro e w' ⟨rfl, hB⟩
              exact ⟨_, rfl, _, rfl, hB, rfl⟩
            refine Flow.pass_val (.pointer (some ⟨wr.heap.size, 3, none⟩)) (Flow.met_none rfl) (fun a W hH => ?_) ?_
            · have e0 := Flow.see_old 6 hH.sees (by kernel_rfl) (by kernel_rfl) rfl
              go_simp
            refine Flow.pass_val ((.slice (some ⟨wr.heap.size, 3, none⟩) 32 32)) (Flow.met_none rfl) (fun a W hH => ?_) ?_
            · have e0 := Flow.see_new 84 8 hH.sees (by kernel_rfl) (by kernel_rfl) rfl rfl
              go_simp; first | done | rfl
            refine Flow.pass_step (Reg.eqs (.string ⟨(hexL r.dig).toArray⟩)) (fun _ _ => Flow.kept_eqs _ _) (Flow.met_none rfl) (fun a W hH => ?_) ?_
            · have e0 := Flow.see_new 85 9 hH.sees (by kernel_rfl) (by kernel_rfl) rfl rfl
              have fa2 : (fun W => Blk W wr.heap.size 130 (recCells r).toArray) W := hH.fact _ (List.mem_of_getElem? (i := 2) rfl) rfl
              refine Reg.wp_call rfl Try.func44 rfl (by kernel_rfl) (by simp [Act.eval, e0]) (rDigits16_any (some ⟨wr.heap.size, 3, none⟩) 32 32 r.dig W (rd_of_range (rec_dig fa2) fa2.lt hr.out.dig) (by omega)) ?_
              rintro e w' ⟨rfl, hB⟩
              exact ⟨_, rfl, _, rfl, hB, rfl⟩
            refine Flow.pass_lin [14] (fun v W => ∃ b, v = .slice (some ⟨b, 0, none⟩) 5 5 ∧ Blk W b 9 ((recW r).map strV).toArray) (Flow.kept_lin [14] (fun _ _ _ c ⟨b, h1, h2⟩ => ⟨b, h1, h2.chg c id⟩) (Flow.lz_cons (fun _ => .inl rfl) Flow.lz_nil)) (Flow.met_none rfl) (fun a W hH => ?_) ?_
            · have e0 := Flow.see_new 79 3 hH.sees (by kernel_rfl) (by kernel_rfl) rfl rfl
              have e1 := Flow.see_new 80 4 hH.sees (by kernel_rfl) (by kernel_rfl) rfl rfl
              have e2 := Flow.see_new 83 7 hH.sees (by kernel_rfl) (by kernel_rfl) rfl rfl
              have e3 := Flow.see_new 86 10 hH.sees (by kernel_rfl) (by kernel_rfl) rfl rfl
              refine Flow.wp_run (Flow.reg_buildSlice _ rfl (by simp [Act.eval, strV, e0, e1, e2, e3]) (run_strs W 5 (recW r) _ rfl (by decide) (by decide) rfl)) ?_
              exact ⟨_, rfl, Chg.of_ext ((Ext.refl W).alloc _), W.heap.size, rfl, Blk.new _ _ _⟩
            refine Flow.pass_step (Reg.eqs (.string ⟨(joinWs (recW r)).toArray⟩)) (fun _ _ => Flow.kept_eqs _ _) (Flow.met_none rfl) (fun a W hH => ?_) ?_
            · obtain ⟨b0, e0, q0⟩ := Flow.see_lin 87 11 hH.sees (by kernel_rfl) (by kernel_rfl) rfl rfl (by kernel_rfl)
              refine Reg.wp_call rfl Try.func66 rfl (by kernel_rfl) (by simp [Act.eval, e0]) (join_any b0 (recW r) W q0 5 (Lib.hid rfl) (by omega) (recW_len r hr.out)) ?_
              rintro e w' ⟨rfl, rfl⟩
              exact ⟨_, rfl, _, rfl, Below.refl _ _, rfl⟩
            refine Flow.pass_lin [14] (fun v W => ∃ b, v = .slice (some ⟨b, 0, none⟩) 1 1 ∧ Blk W b 9 #[strV (joinWs (recW r))]) (Flow.kept_lin [14] (fun _ _ _ c ⟨b, h1, h2⟩ => ⟨b, h1, h2.chg c id⟩) (Flow.lz_cons (fun _ => .inl rfl) Flow.lz_nil)) (Flow.met_none rfl) (fun a W hH => ?_) ?_
            · have e0 := Flow.see_new 88 12 hH.sees (by kernel_rfl) (by kernel_rfl) rfl rfl
              refine Flow.wp_run (Flow.reg_buildSlice #[(0, .string ⟨(joinWs (recW r)).toArray⟩)] rfl (by simp [Act.eval, e0]) (run_str1 W (joinWs (recW r)))) ?_
              exact ⟨_, rfl, Chg.of_ext ((Ext.refl W).alloc _), W.heap.size, rfl, Blk.new _ _ _⟩
            refine Flow.pass_list (fun v W => Ls (w.heap.size + 1) (lk ++ [(joinWs (recW r))]) v W) (Flow.kept_of (fun _ _ _ c h => h.chg0 c) (Flow.kz_cons (Flow.no_follow (by kernel_rfl)) Flow.kz_nil)) (Flow.met_none rfl) (fun a W hH => ?_) ?_
            · have e0 := Flow.see_new 76 0 hH.sees (by kernel_rfl) (by kernel_rfl) rfl rfl
              obtain ⟨b1, e1, q1⟩ := Flow.see_lin 89 13 hH.sees (by kernel_rfl) (by kernel_rfl) rfl rfl (by kernel_rfl)
              have fa3 : (fun W => W.ownsRow (w.heap.size + 1) 9 1 (.slice A0 lk.length c0) lk.length (lk.map strV)) W := hH.fact _ (List.mem_of_getElem? (i := 3) rfl) rfl
              refine wpList_app W elS rfl _ _ rfl (w.heap.size + 1) A0 (lk.length) c0 _ (by simpa [Act.eval] using e0) fa3 _ (some ⟨b1, 0, none⟩) 1 1 [strV (joinWs (recW r))] (by simpa [Act.eval] using e1) (by have := q1.rd (size := 1) (n := 1) (by simp); simpa using this) (by simpa using strV_one [(joinWs (recW r))]) (by omega) (by omega) (Nat.le_trans hsz hH.below.size) ?_
              intro A' c' W2 hO2 hg hB _
              exact Flow.qq_nil ⟨_, rfl, Chg.of_below hB (fun k hk _ => hk), Ls.of hO2⟩
            refine Flow.pass_copy 90 14 (Flow.met_none rfl) (.inr rfl) (by kernel_rfl) (by kernel_rfl) rfl rfl (Flow.kept_of (fun _ _ _ c h => h.chg0 c) (Flow.kz_cons (Flow.no_follow (by kernel_rfl)) Flow.kz_nil)) ?_
            refine Flow.pass_end [none, none, none, some 3, none, none, none, none, none, none, none, none, none, none, none, none, none, none, none, none, none, none, none, none, none, none, none, none, none, none, none, none, none, none, none, none, none, none, none, none, none, none, none, none, none, none, none, none, none, none, none, none, none, none, none, none, none, none, none, none, none, none, none, none, none, none, none, none, none, none, none, none, none, none, none, none, some 76, some 77, some 78, some 79, some 80, some 81, some 82, some 83, some 84, some 85, some 86, some 87, some 88, some 89, some 90, none, none, none, none, none, none, none, none, none, none, none, none, none, none, none, none, none, none, none, none, none, none, none, none, none, none, none, none, none, none, none, none, none, none, none, none, none, none, none, none, none, none, none, none, none, none, none, none, none, none, none, none, none, none, none, none, none, none, none] (by kernel_rfl) ?_
            intro f gg w9 hB hfa hT hfg
            have h3 := hT 15 _ (by kernel_rfl) rfl
            rw [← hfg 3 15 (by kernel_rfl)] at h3
            have hs9 : w.heap.size + 1 ≤ w9.heap.size := Nat.le_trans hsz hB.size
            have B9 := B3.drew.trans (hB.mono (Nat.le_succ _))
            have hbx := hbx.drew.below hB (Nat.lt_succ_self _)
            clear hfa hT hfg hB B3 hy
            obtain ⟨A5, c5, e5, o5⟩ := h3
            rw [List.length_append] at e5
            simp only [Reg.sel, e5]
            go_wp2
            go_roundw
            case rel => ((try ((repeat apply Exists.intro); refine ⟨?_, rfl⟩)); exact ⟨k + 1, by omega, by go_num, by rw [List.take_succ_eq_append_getElem hkl, List.map_append, ← List.append_assoc, ← Hlk.out, List.map_cons, List.map_nil, ← Hr.out]; exact ⟨A5, c5, by rw [List.length_append], o5⟩, hbx, B9, hs9⟩)
            case measure => simp [intOf]; omega
          · have hL : (⟨#[103, 117, 101, 115, 116]⟩ : ByteArray) = ⟨(kindStr r.kind).toArray⟩ := by rw [hk1]; rfl
            have e1 : (r.kind == 1) = false := by rw [hk1]; rfl
            have e2 : (r.kind == 2) = true := by rw [hk1]; rfl
            have e3 : (r.kind == 3) = false := by rw [hk1]; rfl
            have HL := Lib.hid hL
            clear hL hk1
            go_upto_region 21 with (fail)
            clear e1 e2 e3 ck
            rw [HL.out]
            refine Flow.wp_region_flow (w.heap.size + 1) [(14, fun b => w.heap.size + 1 ≤ b)] [(2, fun W => Blk W wr.heap.size 130 (recCells r).toArray), (6, fun W => Blk W wr.heap.size 130 (recCells r).toArray), (10, fun W => Blk W wr.heap.size 130 (recCells r).toArray), (14, fun W => W.ownsRow (w.heap.size + 1) 9 1 (.slice A0 lk.length c0) lk.length (lk.map strV))] (by kernel_rfl) (by kernel_rfl) hsz (Flow.nz_cons (fun _ h => h) Flow.nz_nil) (Flow.facts_cons (hy.drew) (fun _ _ c h => h.chg c id) (Flow.fz_cons (Flow.no_follow (by kernel_rfl)) Flow.fz_nil) (Flow.facts_cons (hy.drew) (fun _ _ c h => h.chg c id) (Flow.fz_cons (Flow.no_follow (by kernel_rfl)) Flow.fz_nil) (Flow.facts_cons (hy.drew) (fun _ _ c h => h.chg c id) (Flow.fz_cons (Flow.no_follow (by kernel_rfl)) Flow.fz_nil) (Flow.facts_cons (ho.drew) (fun _ _ c h => own_chg h c (fun _ _ => id)) (Flow.fz_cons (Flow.no_follow (by kernel_rfl)) Flow.fz_nil) Flow.facts_nil)))) ?_
            refine Flow.pass_old 3 (Flow.met_none rfl) (.inl rfl) (by kernel_rfl) (by kernel_rfl) rfl ?_
            apply Flow.pass_val (hm := (Flow.met_none rfl))
            · intro a W hH
              have e0 := Flow.see_old 6 hH.sees (by kernel_rfl) (by kernel_rfl) rfl
              go_simp; first | done | rfl
            refine Flow.pass_val (.int .i64 r.idx) (Flow.met_none rfl) (fun a W hH => ?_) ?_
            · have e0 := Flow.see_new 77 1 hH.sees (by kernel_rfl) (by kernel_rfl) rfl rfl
              have fa0 : (fun W => Blk W wr.heap.size 130 (recCells r).toArray) W := hH.fact _ (List.mem_of_getElem? (i := 0) rfl) rfl
              have c := fa0.cell 1; simp only [recCells] at c; go_simp
            refine Flow.pass_step (Reg.eqs (.string ⟨(digStr r.idx).toArray⟩)) (fun _ _ => Flow.kept_eqs _ _) (Flow.met_none rfl) (fun a W hH => ?_) ?_
            · have e0 := Flow.see_new 78 2 hH.sees (by kernel_rfl) (by kernel_rfl) rfl rfl
              refine Reg.wp_call rfl Try.func42 rfl (by kernel_rfl) (by simp [Act.eval, e0]) (rDigits_any r.idx hr.out.idx.1 hr.out.idx.2 W) ?_
              rintro e w' ⟨rfl, rfl⟩
              exact ⟨_, rfl, _, rfl, Below.refl _ _, rfl⟩
            refine Flow.pass_old 7 (Flow.met_none rfl) (.inl rfl) (by kernel_rfl) (by kernel_rfl) rfl ?_
            apply Flow.pass_val (hm := (Flow.met_none rfl))
            · intro a W hH
              have e0 := Flow.see_old 6 hH.sees (by kernel_rfl) (by kernel_rfl) rfl
              go_simp; first | done | rfl
            refine Flow.pass_val (.int .i64 r.err) (Flow.met_none rfl) (fun a W hH => ?_) ?_
            · have e0 := Flow.see_new 81 5 hH.sees (by kernel_rfl) (by kernel_rfl) rfl rfl
              have fa1 : (fun W => Blk W wr.heap.size 130 (recCells r).toArray) W := hH.fact _ (List.mem_of_getElem? (i := 1) rfl) rfl
              have c := fa1.cell 2; simp only [recCells] at c; go_simp
            refine Flow.pass_step (Reg.eqs (.string ⟨(nameOf r.err).toArray⟩)) (fun _ _ => Flow.kept_eqs _ _) (Flow.met_none rfl) (fun a W hH => ?_) ?_
            · have e0 := Flow.see_new 82 6 hH.sees (by kernel_rfl) (by kernel_rfl) rfl rfl
              refine Reg.wp_call rfl Try.func48 rfl (by kernel_rfl) (by simp [Act.eval, e0]) (rName_any r.err hr.out.err.1 hr.out.err.2 W) ?_
              rintro e w' ⟨rfl, hB⟩
              exact ⟨_, rfl, _, rfl, hB, rfl⟩
            refine Flow.pass_val (.pointer (some ⟨wr.heap.size, 3, none⟩)) (Flow.met_none rfl) (fun a W hH => ?_) ?_
            · have e0 := Flow.see_old 6 hH.sees (by kernel_rfl) (by kernel_rfl) rfl
              go_simp
            refine Flow.pass_val ((.slice (some ⟨wr.heap.size, 3, none⟩) 32 32)) (Flow.met_none rfl) (fun a W hH => ?_) ?_
            · have e0 := Flow.see_new 84 8 hH.sees (by kernel_rfl) (by kernel_rfl) rfl rfl
              go_simp; first | done | rfl
            refine Flow.pass_step (Reg.eqs (.string ⟨(hexL r.dig).toArray⟩)) (fun _ _ => Flow.kept_eqs _ _) (Flow.met_none rfl) (fun a W hH => ?_) ?_
            · have e0 := Flow.see_new 85 9 hH.sees (by kernel_rfl) (by kernel_rfl) rfl rfl
              have fa2 : (fun W => Blk W wr.heap.size 130 (recCells r).toArray) W := hH.fact _ (List.mem_of_getElem? (i := 2) rfl) rfl
              refine Reg.wp_call rfl Try.func44 rfl (by kernel_rfl) (by simp [Act.eval, e0]) (rDigits16_any (some ⟨wr.heap.size, 3, none⟩) 32 32 r.dig W (rd_of_range (rec_dig fa2) fa2.lt hr.out.dig) (by omega)) ?_
              rintro e w' ⟨rfl, hB⟩
              exact ⟨_, rfl, _, rfl, hB, rfl⟩
            refine Flow.pass_lin [14] (fun v W => ∃ b, v = .slice (some ⟨b, 0, none⟩) 5 5 ∧ Blk W b 9 ((recW r).map strV).toArray) (Flow.kept_lin [14] (fun _ _ _ c ⟨b, h1, h2⟩ => ⟨b, h1, h2.chg c id⟩) (Flow.lz_cons (fun _ => .inl rfl) Flow.lz_nil)) (Flow.met_none rfl) (fun a W hH => ?_) ?_
            · have e0 := Flow.see_new 79 3 hH.sees (by kernel_rfl) (by kernel_rfl) rfl rfl
              have e1 := Flow.see_new 80 4 hH.sees (by kernel_rfl) (by kernel_rfl) rfl rfl
              have e2 := Flow.see_new 83 7 hH.sees (by kernel_rfl) (by kernel_rfl) rfl rfl
              have e3 := Flow.see_new 86 10 hH.sees (by kernel_rfl) (by kernel_rfl) rfl rfl
              refine Flow.wp_run (Flow.reg_buildSlice _ rfl (by simp [Act.eval, strV, e0, e1, e2, e3]) (run_strs W 5 (recW r) _ rfl (by decide) (by decide) rfl)) ?_
              exact ⟨_, rfl, Chg.of_ext ((Ext.refl W).alloc _), W.heap.size, rfl, Blk.new _ _ _⟩
            refine Flow.pass_step (Reg.eqs (.string ⟨(joinWs (recW r)).toArray⟩)) (fun _ _ => Flow.kept_eqs _ _) (Flow.met_none rfl) (fun a W hH => ?_) ?_
            · obtain ⟨b0, e0, q0⟩ := Flow.see_lin 87 11 hH.sees (by kernel_rfl) (by kernel_rfl) rfl rfl (by kernel_rfl)
              refine Reg.wp_call rfl Try.func66 rfl (by kernel_rfl) (by simp [Act.eval, e0]) (join_any b0 (recW r) W q0 5 (Lib.hid rfl) (by omega) (recW_len r hr.out)) ?_
              rintro e w' ⟨rfl, rfl⟩
              exact ⟨_, rfl, _, rfl, Below.refl _ _, rfl⟩
            refine Flow.pass_lin [14] (fun v W => ∃ b, v = .slice (some ⟨b, 0, none⟩) 1 1 ∧ Blk W b 9 #[strV (joinWs (recW r))]) (Flow.kept_lin [14] (fun _ _ _ c ⟨b, h1, h2⟩ => ⟨b, h1, h2.chg c id⟩) (Flow.lz_cons (fun _ => .inl rfl) Flow.lz_nil)) (Flow.met_none rfl) (fun a W hH => ?_) ?_
            · have e0 := Flow.see_new 88 12 hH.sees (by kernel_rfl) (by kernel_rfl) rfl rfl
              refine Flow.wp_run (Flow.reg_buildSlice #[(0, .string ⟨(joinWs (recW r)).toArray⟩)] rfl (by simp [Act.eval, e0]) (run_str1 W (joinWs (recW r)))) ?_
              exact ⟨_, rfl, Chg.of_ext ((Ext.refl W).alloc _), W.heap.size, rfl, Blk.new _ _ _⟩
            refine Flow.pass_list (fun v W => Ls (w.heap.size + 1) (lk ++ [(joinWs (recW r))]) v W) (Flow.kept_of (fun _ _ _ c h => h.chg0 c) (Flow.kz_cons (Flow.no_follow (by kernel_rfl)) Flow.kz_nil)) (Flow.met_none rfl) (fun a W hH => ?_) ?_
            · have e0 := Flow.see_new 76 0 hH.sees (by kernel_rfl) (by kernel_rfl) rfl rfl
              obtain ⟨b1, e1, q1⟩ := Flow.see_lin 89 13 hH.sees (by kernel_rfl) (by kernel_rfl) rfl rfl (by kernel_rfl)
              have fa3 : (fun W => W.ownsRow (w.heap.size + 1) 9 1 (.slice A0 lk.length c0) lk.length (lk.map strV)) W := hH.fact _ (List.mem_of_getElem? (i := 3) rfl) rfl
              refine wpList_app W elS rfl _ _ rfl (w.heap.size + 1) A0 (lk.length) c0 _ (by simpa [Act.eval] using e0) fa3 _ (some ⟨b1, 0, none⟩) 1 1 [strV (joinWs (recW r))] (by simpa [Act.eval] using e1) (by have := q1.rd (size := 1) (n := 1) (by simp); simpa using this) (by simpa using strV_one [(joinWs (recW r))]) (by omega) (by omega) (Nat.le_trans hsz hH.below.size) ?_
              intro A' c' W2 hO2 hg hB _
              exact Flow.qq_nil ⟨_, rfl, Chg.of_below hB (fun k hk _ => hk), Ls.of hO2⟩
            refine Flow.pass_copy 90 14 (Flow.met_none rfl) (.inr rfl) (by kernel_rfl) (by kernel_rfl) rfl rfl (Flow.kept_of (fun _ _ _ c h => h.chg0 c) (Flow.kz_cons (Flow.no_follow (by kernel_rfl)) Flow.kz_nil)) ?_
            refine Flow.pass_end [none, none, none, some 3, none, none, none, none, none, none, none, none, none, none, none, none, none, none, none, none, none, none, none, none, none, none, none, none, none, none, none, none, none, none, none, none, none, none, none, none, none, none, none, none, none, none, none, none, none, none, none, none, none, none, none, none, none, none, none, none, none, none, none, none, none, none, none, none, none, none, none, none, none, none, none, none, some 76, some 77, some 78, some 79, some 80, some 81, some 82, some 83, some 84, some 85, some 86, some 87, some 88, some 89, some 90, none, none, none, none, none, none, none, none, none, none, none, none, none, none, none, none, none, none, none, none, none, none, none, none, none, none, none, none, none, none, none, none, none, none, none, none, none, none, none, none, none, none, none, none, none, none, none, none, none, none, none, none, none, none, none, none, none, none, none] (by kernel_rfl) ?_
            intro f gg w9 hB hfa hT hfg
            have h3 := hT 15 _ (by kernel_rfl) rfl
            rw [← hfg 3 15 (by kernel_rfl)] at h3
            have hs9 : w.heap.size + 1 ≤ w9.heap.size := Nat.le_trans hsz hB.size
            have B9 := B3.drew.trans (hB.mono (Nat.le_succ _))
            have hbx := hbx.drew.below hB (Nat.lt_succ_self _)
            clear hfa hT hfg hB B3 hy
            obtain ⟨A5, c5, e5, o5⟩ := h3
            rw [List.length_append] at e5
            simp only [Reg.sel, e5]
            go_wp2
            go_roundw
            case rel => ((try ((repeat apply Exists.intro); refine ⟨?_, rfl⟩)); exact ⟨k + 1, by omega, by go_num, by rw [List.take_succ_eq_append_getElem hkl, List.map_append, ← List.append_assoc, ← Hlk.out, List.map_cons, List.map_nil, ← Hr.out]; exact ⟨A5, c5, by rw [List.length_append], o5⟩, hbx, B9, hs9⟩)
            case measure => simp [intOf]; omega
          · have hL : (⟨#[115, 107, 105, 112, 112, 101, 100]⟩ : ByteArray) = ⟨(kindStr r.kind).toArray⟩ := by rw [hk1]; rfl
            have e1 : (r.kind == 1) = false := by rw [hk1]; rfl
            have e2 : (r.kind == 2) = false := by rw [hk1]; rfl
            have e3 : (r.kind == 3) = true := by rw [hk1]; rfl
            have HL := Lib.hid hL
            clear hL hk1
            go_upto_region 21 with (fail)
            clear e1 e2 e3 ck
            rw [HL.out]
            refine Flow.wp_region_flow (w.heap.size + 1) [(14, fun b => w.heap.size + 1 ≤ b)] [(2, fun W => Blk W wr.heap.size 130 (recCells r).toArray), (6, fun W => Blk W wr.heap.size 130 (recCells r).toArray), (10, fun W => Blk W wr.heap.size 130 (recCells r).toArray), (14, fun W => W.ownsRow (w.heap.size + 1) 9 1 (.slice A0 lk.length c0) lk.length (lk.map strV))] (by kernel_rfl) (by kernel_rfl) hsz (Flow.nz_cons (fun _ h => h) Flow.nz_nil) (Flow.facts_cons (hy.drew) (fun _ _ c h => h.chg c id) (Flow.fz_cons (Flow.no_follow (by kernel_rfl)) Flow.fz_nil) (Flow.facts_cons (hy.drew) (fun _ _ c h => h.chg c id) (Flow.fz_cons (Flow.no_follow (by kernel_rfl)) Flow.fz_nil) (Flow.facts_cons (hy.drew) (fun _ _ c h => h.chg c id) (Flow.fz_cons (Flow.no_follow (by kernel_rfl)) Flow.fz_nil) (Flow.facts_cons (ho.drew) (fun _ _ c h => own_chg h c (fun _ _ => id)) (Flow.fz_cons (Flow.no_follow (by kernel_rfl)) Flow.fz_nil) Flow.facts_nil)))) ?_
            refine Flow.pass_old 3 (Flow.met_none rfl) (.inl rfl) (by kernel_rfl) (by kernel_rfl) rfl ?_
            apply Flow.pass_val (hm := (Flow.met_none rfl))
            · intro a W hH
              have e0 := Flow.see_old 6 hH.sees (by kernel_rfl) (by kernel_rfl) rfl
              go_simp; first | done | rfl
            refine Flow.pass_val (.int .i64 r.idx) (Flow.met_none rfl) (fun a W hH => ?_) ?_
            · have e0 := Flow.see_new 77 1 hH.sees (by kernel_rfl) (by kernel_rfl) rfl rfl
              have fa0 : (fun W => Blk W wr.heap.size 130 (recCells r).toArray) W := hH.fact _ (List.mem_of_getElem? (i := 0) rfl) rfl
              have c := fa0.cell 1; simp only [recCells] at c; go_simp
            refine Flow.pass_step (Reg.eqs (.string ⟨(digStr r.idx).toArray⟩)) (fun _ _ => Flow.kept_eqs _ _) (Flow.met_none rfl) (fun a W hH => ?_) ?_
            · have e0 := Flow.see_new 78 2 hH.sees (by kernel_rfl) (by kernel_rfl) rfl rfl
              refine Reg.wp_call rfl Try.func42 rfl (by kernel_rfl) (by simp [Act.eval, e0]) (rDigits_any r.idx hr.out.idx.1 hr.out.idx.2 W) ?_
              rintro e w' ⟨rfl, rfl⟩
              exact ⟨_, rfl, _, rfl, Below.refl _ _, rfl⟩
            refine Flow.pass_old 7 (Flow.met_none rfl) (.inl rfl) (by kernel_rfl) (by kernel_rfl) rfl ?_
            apply Flow.pass_val (hm := (Flow.met_none rfl))
            · intro a W hH
              have e0 := Flow.see_old 6 hH.sees (by kernel_rfl) (by kernel_rfl) rfl
              go_simp; first | done | rfl
            refine Flow.pass_val (.int .i64 r.err) (Flow.met_none rfl) (fun a W hH => ?_) ?_
            · have e0 := Flow.see_new 81 5 hH.sees (by kernel_rfl) (by kernel_rfl) rfl rfl
              have fa1 : (fun W => Blk W wr.heap.size 130 (recCells r).toArray) W := hH.fact _ (List.mem_of_getElem? (i := 1) rfl) rfl
              have c := fa1.cell 2; simp only [recCells] at c; go_simp
            refine Flow.pass_step (Reg.eqs (.string ⟨(nameOf r.err).toArray⟩)) (fun _ _ => Flow.kept_eqs _ _) (Flow.met_none rfl) (fun a W hH => ?_) ?_
            · have e0 := Flow.see_new 82 6 hH.sees (by kernel_rfl) (by kernel_rfl) rfl rfl
              refine Reg.wp_call rfl Try.func48 rfl (by kernel_rfl) (by simp [Act.eval, e0]) (rName_any r.err hr.out.err.1 hr.out.err.2 W) ?_
              rintro e w' ⟨rfl, hB⟩
              exact ⟨_, rfl, _, rfl, hB, rfl⟩
            refine Flow.pass_val (.pointer (some ⟨wr.heap.size, 3, none⟩)) (Flow.met_none rfl) (fun a W hH => ?_) ?_
            · have e0 := Flow.see_old 6 hH.sees (by kernel_rfl) (by kernel_rfl) rfl
              go_simp
            refine Flow.pass_val ((.slice (some ⟨wr.heap.size, 3, none⟩) 32 32)) (Flow.met_none rfl) (fun a W hH => ?_) ?_
            · have e0 := Flow.see_new 84 8 hH.sees (by kernel_rfl) (by kernel_rfl) rfl rfl
              go_simp; first | done | rfl
            refine Flow.pass_step (Reg.eqs (.string ⟨(hexL r.dig).toArray⟩)) (fun _ _ => Flow.kept_eqs _ _) (Flow.met_none rfl) (fun a W hH => ?_) ?_
            · have e0 := Flow.see_new 85 9 hH.sees (by kernel_rfl) (by kernel_rfl) rfl rfl
              have fa2 : (fun W => Blk W wr.heap.size 130 (recCells r).toArray) W := hH.fact _ (List.mem_of_getElem? (i := 2) rfl) rfl
              refine Reg.wp_call rfl Try.func44 rfl (by kernel_rfl) (by simp [Act.eval, e0]) (rDigits16_any (some ⟨wr.heap.size, 3, none⟩) 32 32 r.dig W (rd_of_range (rec_dig fa2) fa2.lt hr.out.dig) (by omega)) ?_
              rintro e w' ⟨rfl, hB⟩
              exact ⟨_, rfl, _, rfl, hB, rfl⟩
            refine Flow.pass_lin [14] (fun v W => ∃ b, v = .slice (some ⟨b, 0, none⟩) 5 5 ∧ Blk W b 9 ((recW r).map strV).toArray) (Flow.kept_lin [14] (fun _ _ _ c ⟨b, h1, h2⟩ => ⟨b, h1, h2.chg c id⟩) (Flow.lz_cons (fun _ => .inl rfl) Flow.lz_nil)) (Flow.met_none rfl) (fun a W hH => ?_) ?_
            · have e0 := Flow.see_new 79 3 hH.sees (by kernel_rfl) (by kernel_rfl) rfl rfl
              have e1 := Flow.see_new 80 4 hH.sees (by kernel_rfl) (by kernel_rfl) rfl rfl
              have e2 := Flow.see_new 83 7 hH.sees (by kernel_rfl) (by kernel_rfl) rfl rfl
              have e3 := Flow.see_new 86 10 hH.sees (by kernel_rfl) (by kernel_rfl) rfl rfl
              refine Flow.wp_run (Flow.reg_buildSlice _ rfl (by simp [Act.eval, strV, e0, e1, e2, e3]) (run_strs W 5 (recW r) _ rfl (by decide) (by decide) rfl)) ?_
              exact ⟨_, rfl, Chg.of_ext ((Ext.refl W).alloc _), W.heap.size, rfl, Blk.new _ _ _⟩
            refine Flow.pass_step (Reg.eqs (.string ⟨(joinWs (recW r)).toArray⟩)) (fun _ _ => Flow.kept_eqs _ _) (Flow.met_none rfl) (fun a W hH => ?_) ?_
            · obtain ⟨b0, e0, q0⟩ := Flow.see_lin 87 11 hH.sees (by kernel_rfl) (by kernel_rfl) rfl rfl (by kernel_rfl)
              refine Reg.wp_call rfl Try.func66 rfl (by kernel_rfl) (by simp [Act.eval, e0]) (join_any b0 (recW r) W q0 5 (Lib.hid rfl) (by omega) (recW_len r hr.out)) ?_
              rintro e w' ⟨rfl, rfl⟩
              exact ⟨_, rfl, _, rfl, Below.refl _ _, rfl⟩
            refine Flow.pass_lin [14] (fun v W => ∃ b, v = .slice (some ⟨b, 0, none⟩) 1 1 ∧ Blk W b 9 #[strV (joinWs (recW r))]) (Flow.kept_lin [14] (fun _ _ _ c ⟨b, h1, h2⟩ => ⟨b, h1, h2.chg c id⟩) (Flow.lz_cons (fun _ => .inl rfl) Flow.lz_nil)) (Flow.met_none rfl) (fun a W hH => ?_) ?_
            · have e0 := Flow.see_new 88 12 hH.sees (by kernel_rfl) (by kernel_rfl) rfl rfl
              refine Flow.wp_run (Flow.reg_buildSlice #[(0, .string ⟨(joinWs (recW r)).toArray⟩)] rfl (by simp [Act.eval, e0]) (run_str1 W (joinWs (recW r)))) ?_
              exact ⟨_, rfl, Chg.of_ext ((Ext.refl W).alloc _), W.heap.size, rfl, Blk.new _ _ _⟩
            refine Flow.pass_list (fun v W => Ls (w.heap.size + 1) (lk ++ [(joinWs (recW r))]) v W) (Flow.kept_of (fun _ _ _ c h => h.chg0 c) (Flow.kz_cons (Flow.no_follow (by kernel_rfl)) Flow.kz_nil)) (Flow.met_none rfl) (fun a W hH => ?_) ?_
            · have e0 := Flow.see_new 76 0 hH.sees (by kernel_rfl) (by kernel_rfl) rfl rfl
              obtain ⟨b1, e1, q1⟩ := Flow.see_lin 89 13 hH.sees (by kernel_rfl) (by kernel_rfl) rfl rfl (by kernel_rfl)
              have fa3 : (fun W => W.ownsRow (w.heap.size + 1) 9 1 (.slice A0 lk.length c0) lk.length (lk.map strV)) W := hH.fact _ (List.mem_of_getElem? (i := 3) rfl) rfl
              refine wpList_app W elS rfl _ _ rfl (w.heap.size + 1) A0 (lk.length) c0 _ (by simpa [Act.eval] using e0) fa3 _ (some ⟨b1, 0, none⟩) 1 1 [strV (joinWs (recW r))] (by simpa [Act.eval] using e1) (by have := q1.rd (size := 1) (n := 1) (by simp); simpa using this) (by simpa using strV_one [(joinWs (recW r))]) (by omega) (by omega) (Nat.le_trans hsz hH.below.size) ?_
              intro A' c' W2 hO2 hg hB _
              exact Flow.qq_nil ⟨_, rfl, Chg.of_below hB (fun k hk _ => hk), Ls.of hO2⟩
            refine Flow.pass_copy 90 14 (Flow.met_none rfl) (.inr rfl) (by kernel_rfl) (by kernel_rfl) rfl rfl (Flow.kept_of (fun _ _ _ c h => h.chg0 c) (Flow.kz_cons (Flow.no_follow (by kernel_rfl)) Flow.kz_nil)) ?_
            refine Flow.pass_end [none, none, none, some 3, none, none, none, none, none, none, none, none, none, none, none, none, none, none, none, none, none, none, none, none, none, none, none, none, none, none, none, none, none, none, none, none, none, none, none, none, none, none, none, none, none, none, none, none, none, none, none, none, none, none, none, none, none, none, none, none, none, none, none, none, none, none, none, none, none, none, none, none, none, none, none, none, some 76, some 77, some 78, some 79, some 80, some 81, some 82, some 83, some 84, some 85, some 86, some 87, some 88, some 89, some 90, none, none, none, none, none, none, none, none, none, none, none, none, none, none, none, none, none, none, none, none, none, none, none, none, none, none, none, none, none, none, none, none, none, none, none, none, none, none, none, none, none, none, none, none, none, none, none, none, none, none, none, none, none, none, none, none, none, none, none] (by kernel_rfl) ?_
            intro f gg w9 hB hfa hT hfg
            have h3 := hT 15 _ (by kernel_rfl) rfl
            rw [← hfg 3 15 (by kernel_rfl)] at h3
            have hs9 : w.heap.size + 1 ≤ w9.heap.size := Nat.le_trans hsz hB.size
            have B9 := B3.drew.trans (hB.mono (Nat.le_succ _))
            have hbx := hbx.drew.below hB (Nat.lt_succ_self _)
            clear hfa hT hfg hB B3 hy
            obtain ⟨A5, c5, e5, o5⟩ := h3
            rw [List.length_append] at e5
            simp only [Reg.sel, e5]
            go_wp2
            go_roundw
            case rel => ((try ((repeat apply Exists.intro); refine ⟨?_, rfl⟩)); exact ⟨k + 1, by omega, by go_num, by rw [List.take_succ_eq_append_getElem hkl, List.map_append, ← List.append_assoc, ← Hlk.out, List.map_cons, List.map_nil, ← Hr.out]; exact ⟨A5, c5, by rw [List.length_append], o5⟩, hbx, B9, hs9⟩)
            case measure => simp [intOf]; omega
          · have hL : (⟨#[117, 110, 107, 110, 111, 119, 110]⟩ : ByteArray) = ⟨(kindStr r.kind).toArray⟩ := by rw [kindStr, if_neg n1, if_neg n2, if_neg n3']
            have e1 : (r.kind == 1) = false := by simpa using n1
            have e2 : (r.kind == 2) = false := by simpa using n2
            have e3 : (r.kind == 3) = false := by simpa using n3'
            have HL := Lib.hid hL
            clear hL n1 n2 n3'
            go_upto_region 21 with (fail)
            clear e1 e2 e3 ck
            rw [HL.out]
            refine Flow.wp_region_flow (w.heap.size + 1) [(14, fun b => w.heap.size + 1 ≤ b)] [(2, fun W => Blk W wr.heap.size 130 (recCells r).toArray), (6, fun W => Blk W wr.heap.size 130 (recCells r).toArray), (10, fun W => Blk W wr.heap.size 130 (recCells r).toArray), (14, fun W => W.ownsRow (w.heap.size + 1) 9 1 (.slice A0 lk.length c0) lk.length (lk.map strV))] (by kernel_rfl) (by kernel_rfl) hsz (Flow.nz_cons (fun _ h => h) Flow.nz_nil) (Flow.facts_cons (hy.drew) (fun _ _ c h => h.chg c id) (Flow.fz_cons (Flow.no_follow (by kernel_rfl)) Flow.fz_nil) (Flow.facts_cons (hy.drew) (fun _ _ c h => h.chg c id) (Flow.fz_cons (Flow.no_follow (by kernel_rfl)) Flow.fz_nil) (Flow.facts_cons (hy.drew) (fun _ _ c h => h.chg c id) (Flow.fz_cons (Flow.no_follow (by kernel_rfl)) Flow.fz_nil) (Flow.facts_cons (ho.drew) (fun _ _ c h => own_chg h c (fun _ _ => id)) (Flow.fz_cons (Flow.no_follow (by kernel_rfl)) Flow.fz_nil) Flow.facts_nil)))) ?_
            refine Flow.pass_old 3 (Flow.met_none rfl) (.inl rfl) (by kernel_rfl) (by kernel_rfl) rfl ?_
            apply Flow.pass_val (hm := (Flow.met_none rfl))
            · intro a W hH
              have e0 := Flow.see_old 6 hH.sees (by kernel_rfl) (by kernel_rfl) rfl
              go_simp; first | done | rfl
            refine Flow.pass_val (.int .i64 r.idx) (Flow.met_none rfl) (fun a W hH => ?_) ?_
            · have e0 := Flow.see_new 77 1 hH.sees (by kernel_rfl) (by kernel_rfl) rfl rfl
              have fa0 : (fun W => Blk W wr.heap.size 130 (recCells r).toArray) W := hH.fact _ (List.mem_of_getElem? (i := 0) rfl) rfl
              have c := fa0.cell 1; simp only [recCells] at c; go_simp
            refine Flow.pass_step (Reg.eqs (.string ⟨(digStr r.idx).toArray⟩)) (fun _ _ => Flow.kept_eqs _ _) (Flow.met_none rfl) (fun a W hH => ?_) ?_
            · have e0 := Flow.see_new 78 2 hH.sees (by kernel_rfl) (by kernel_rfl) rfl rfl
              refine Reg.wp_call rfl Try.func42 rfl (by kernel_rfl) (by simp [Act.eval, e0]) (rDigits_any r.idx hr.out.idx.1 hr.out.idx.2 W) ?_
              rintro e w' ⟨rfl, rfl⟩
              exact ⟨_, rfl, _, rfl, Below.refl _ _, rfl⟩
            refine Flow.pass_old 7 (Flow.met_none rfl) (.inl rfl) (by kernel_rfl) (by kernel_rfl) rfl ?_
            apply Flow.pass_val (hm := (Flow.met_none rfl))
            · intro a W hH
              have e0 := Flow.see_old 6 hH.sees (by kernel_rfl) (by kernel_rfl) rfl
              go_simp; first | done | rfl
            refine Flow.pass_val (.int .i64 r.err) (Flow.met_none rfl) (fun a W hH => ?_) ?_
            · have e0 := Flow.see_new 81 5 hH.sees (by kernel_rfl) (by kernel_rfl) rfl rfl
              have fa1 : (fun W => Blk W wr.heap.size 130 (recCells r).toArray) W := hH.fact _ (List.mem_of_getElem? (i := 1) rfl) rfl
              have c := fa1.cell 2; simp only [recCells] at c; go_simp
            refine Flow.pass_step (Reg.eqs (.string ⟨(nameOf r.err).toArray⟩)) (fun _ _ => Flow.kept_eqs _ _) (Flow.met_none rfl) (fun a W hH => ?_) ?_
            · have e0 := Flow.see_new 82 6 hH.sees (by kernel_rfl) (by kernel_rfl) rfl rfl
              refine Reg.wp_call rfl Try.func48 rfl (by kernel_rfl) (by simp [Act.eval, e0]) (rName_any r.err hr.out.err.1 hr.out.err.2 W) ?_
              rintro e w' ⟨rfl, hB⟩
              exact ⟨_, rfl, _, rfl, hB, rfl⟩
            refine Flow.pass_val (.pointer (some ⟨wr.heap.size, 3, none⟩)) (Flow.met_none rfl) (fun a W hH => ?_) ?_
            · have e0 := Flow.see_old 6 hH.sees (by kernel_rfl) (by kernel_rfl) rfl
              go_simp
            refine Flow.pass_val ((.slice (some ⟨wr.heap.size, 3, none⟩) 32 32)) (Flow.met_none rfl) (fun a W hH => ?_) ?_
            · have e0 := Flow.see_new 84 8 hH.sees (by kernel_rfl) (by kernel_rfl) rfl rfl
              go_simp; first | done | rfl
            refine Flow.pass_step (Reg.eqs (.string ⟨(hexL r.dig).toArray⟩)) (fun _ _ => Flow.kept_eqs _ _) (Flow.met_none rfl) (fun a W hH => ?_) ?_
            · have e0 := Flow.see_new 85 9 hH.sees (by kernel_rfl) (by kernel_rfl) rfl rfl
              have fa2 : (fun W => Blk W wr.heap.size 130 (recCells r).toArray) W := hH.fact _ (List.mem_of_getElem? (i := 2) rfl) rfl
              refine Reg.wp_call rfl Try.func44 rfl (by kernel_rfl) (by simp [Act.eval, e0]) (rDigits16_any (some ⟨wr.heap.size, 3, none⟩) 32 32 r.dig W (rd_of_range (rec_dig fa2) fa2.lt hr.out.dig) (by omega)) ?_
              rintro e w' ⟨rfl, hB⟩
              exact ⟨_, rfl, _, rfl, hB, rfl⟩
            refine Flow.pass_lin [14] (fun v W => ∃ b, v = .slice (some ⟨b, 0, none⟩) 5 5 ∧ Blk W b 9 ((recW r).map strV).toArray) (Flow.kept_lin [14] (fun _ _ _ c ⟨b, h1, h2⟩ => ⟨b, h1, h2.chg c id⟩) (Flow.lz_cons (fun _ => .inl rfl) Flow.lz_nil)) (Flow.met_none rfl) (fun a W hH => ?_) ?_
            · have e0 := Flow.see_new 79 3 hH.sees (by kernel_rfl) (by kernel_rfl) rfl rfl
              have e1 := Flow.see_new 80 4 hH.sees (by kernel_rfl) (by kernel_rfl) rfl rfl
              have e2 := Flow.see_new 83 7 hH.sees (by kernel_rfl) (by kernel_rfl) rfl rfl
              have e3 := Flow.see_new 86 10 hH.sees (by kernel_rfl) (by kernel_rfl) rfl rfl
              refine Flow.wp_run (Flow.reg_buildSlice _ rfl (by simp [Act.eval, strV, e0, e1, e2, e3]) (run_strs W 5 (recW r) _ rfl (by decide) (by decide) rfl)) ?_
              exact ⟨_, rfl, Chg.of_ext ((Ext.refl W).alloc _), W.heap.size, rfl, Blk.new _ _ _⟩
            refine Flow.pass_step (Reg.eqs (.string ⟨(joinWs (recW r)).toArray⟩)) (fun _ _ => Flow.kept_eqs _ _) (Flow.met_none rfl) (fun a W hH => ?_) ?_
            · obtain ⟨b0, e0, q0⟩ := Flow.see_lin 87 11 hH.sees (by kernel_rfl) (by kernel_rfl) rfl rfl (by kernel_rfl)
              refine Reg.wp_call rfl Try.func66 rfl (by kernel_rfl) (by simp [Act.eval, e0]) (join_any b0 (recW r) W q0 5 (Lib.hid rfl) (by omega) (recW_len r hr.out)) ?_
              rintro e w' ⟨rfl, rfl⟩
              exact ⟨_, rfl, _, rfl, Below.refl _ _, rfl⟩
            refine Flow.pass_lin [14] (fun v W => ∃ b, v = .slice (some ⟨b, 0, none⟩) 1 1 ∧ Blk W b 9 #[strV (joinWs (recW r))]) (Flow.kept_lin [14] (fun _ _ _ c ⟨b, h1, h2⟩ => ⟨b, h1, h2.chg c id⟩) (Flow.lz_cons (fun _ => .inl rfl) Flow.lz_nil)) (Flow.met_none rfl) (fun a W hH => ?_) ?_
            · have e0 := Flow.see_new 88 12 hH.sees (by kernel_rfl) (by kernel_rfl) rfl rfl
              refine Flow.wp_run (Flow.reg_buildSlice #[(0, .string ⟨(joinWs (recW r)).toArray⟩)] rfl (by simp [Act.eval, e0]) (run_str1 W (joinWs (recW r)))) ?_
              exact ⟨_, rfl, Chg.of_ext ((Ext.refl W).alloc _), W.heap.size, rfl, Blk.new _ _ _⟩
            refine Flow.pass_list (fun v W => Ls (w.heap.size + 1) (lk ++ [(joinWs (recW r))]) v W) (Flow.kept_of (fun _ _ _ c h => h.chg0 c) (Flow.kz_cons (Flow.no_follow (by kernel_rfl)) Flow.kz_nil)) (Flow.met_none rfl) (fun a W hH => ?_) ?_
            · have e0 := Flow.see_new 76 0 hH.sees (by kernel_rfl) (by kernel_rfl) rfl rfl
              obtain ⟨b1, e1, q1⟩ := Flow.see_lin 89 13 hH.sees (by kernel_rfl) (by kernel_rfl) rfl rfl (by kernel_rfl)
              have fa3 : (fun W => W.ownsRow (w.heap.size + 1) 9 1 (.slice A0 lk.length c0) lk.length (lk.map strV)) W := hH.fact _ (List.mem_of_getElem? (i := 3) rfl) rfl
              refine wpList_app W elS rfl _ _ rfl (w.heap.size + 1) A0 (lk.length) c0 _ (by simpa [Act.eval] using e0) fa3 _ (some ⟨b1, 0, none⟩) 1 1 [strV (joinWs (recW r))] (by simpa [Act.eval] using e1) (by have := q1.rd (size := 1) (n := 1) (by simp); simpa using this) (by simpa using strV_one [(joinWs (recW r))]) (by omega) (by omega) (Nat.le_trans hsz hH.below.size) ?_
              intro A' c' W2 hO2 hg hB _
              exact Flow.qq_nil ⟨_, rfl, Chg.of_below hB (fun k hk _ => hk), Ls.of hO2⟩
            refine Flow.pass_copy 90 14 (Flow.met_none rfl) (.inr rfl) (by kernel_rfl) (by kernel_rfl) rfl rfl (Flow.kept_of (fun _ _ _ c h => h.chg0 c) (Flow.kz_cons (Flow.no_follow (by kernel_rfl)) Flow.kz_nil)) ?_
            refine Flow.pass_end [none, none, none, some 3, none, none, none, none, none, none, none, none, none, none, none, none, none, none, none, none, none, none, none, none, none, none, none, none, none, none, none, none, none, none, none, none, none, none, none, none, none, none, none, none, none, none, none, none, none, none, none, none, none, none, none, none, none, none, none, none, none, none, none, none, none, none, none, none, none, none, none, none, none, none, none, none, some 76, some 77, some 78, some 79, some 80, some 81, some 82, some 83, some 84, some 85, some 86, some 87, some 88, some 89, some 90, none, none, none, none, none, none, none, none, none, none, none, none, none, none, none, none, none, none, none, none, none, none, none, none, none, none, none, none, none, none, none, none, none, none, none, none, none, none, none, none, none, none, none, none, none, none, none, none, none, none, none, none, none, none, none, none, none, none, none] (by kernel_rfl) ?_
            intro f gg w9 hB hfa hT hfg
            have h3 := hT 15 _ (by kernel_rfl) rfl
            rw [← hfg 3 15 (by kernel_rfl)] at h3
            have hs9 : w.heap.size + 1 ≤ w9.heap.size := Nat.le_trans hsz hB.size
            have B9 := B3.drew.trans (hB.mono (Nat.le_succ _))
            have hbx := hbx.drew.below hB (Nat.lt_succ_self _)
            clear hfa hT hfg hB B3 hy
            obtain ⟨A5, c5, e5, o5⟩ := h3
            rw [List.length_append] at e5
            simp only [Reg.sel, e5]
            go_wp2
            go_roundw
            case rel => ((try ((repeat apply Exists.intro); refine ⟨?_, rfl⟩)); exact ⟨k + 1, by omega, by go_num, by rw [List.take_succ_eq_append_getElem hkl, List.map_append, ← List.append_assoc, ← Hlk.out, List.map_cons, List.map_nil, ← Hr.out]; exact ⟨A5, c5, by rw [List.length_append], o5⟩, hbx, B9, hs9⟩)
            case measure => simp [intOf]; omega
        · have hke : k = n6 := by omega
          subst hke
          rw [List.take_of_length_le (by rw [hlog.out]; exact Nat.le_refl _)] at ho hlk ⊢
          obtain ⟨l4, hl4d⟩ : ∃ l4, l4 = l3 ++ log.map fun r => joinWs (recW r) := ⟨_, rfl⟩
          rw [← hl4d] at ho hlk ⊢
          have Hl4 := Lib.hid hl4d
          clear hl4d
          have c74 := (hbx.cell 74).trans m70
          go_wp2_with fail
          have hll4 : Hid (l4.length ≤ 160) := hlk
          clear c74 hlk
          go_loopw [3, 96] (fun v i wr => ∃ k : Nat, k ≤ n7 ∧ i = .int .i64 k ∧ Ls (w.heap.size + 1) (l4 ++ (gst.take k).map fun r => joinWs (gstW r)) v wr ∧ Blk wr w.heap.size 77 C ∧ Below w.heap.size w wr ∧ w.heap.size + 1 ≤ wr.heap.size) (fun _ i _ => n7 - (intOf i).toNat)
          case atStart => exact ⟨0, Nat.zero_le _, rfl, by rw [List.take_zero, List.map_nil, List.append_nil]; exact ⟨A0, c0, rfl, ho⟩, hbx, hBk, hGk⟩
          case round =>
            clear ho hbx hBk hGk
            obtain ⟨k, hk, rfl, ⟨A0, c0, rfl, ho⟩, hbx, hBk, hGk⟩ := hrel
            have hlk : Hid ((l4 ++ (gst.take k).map fun r => joinWs (gstW r)).length ≤ 200) := Lib.hid (by simp; have := hll4.out; omega)
            by_cases hk2 : k < n7
            · have hkl : k < gst.length := by rw [hgst.out]; exact hk2
              obtain ⟨b, o, rfl, hbG, hrg⟩ := (hR7.below hBk).range (by omega)
              obtain ⟨r, hrd⟩ : ∃ r, r = gst[k] := ⟨_, rfl⟩
              have hr : Hid r.Ok := Lib.hid (by rw [hrd]; exact hgok.out _ (List.getElem_mem hkl))
              have hrr := range_row gstCells 6 gst o (fun x _ => rfl) hrg k hkl
              rw [← hrd] at hrr
              have Hr := Lib.hid hrd
              obtain ⟨lk, hlkd⟩ : ∃ lk, lk = l4 ++ (gst.take k).map fun r => joinWs (gstW r) := ⟨_, rfl⟩
              have Hlk := Lib.hid hlkd
              rw [← hlkd] at ho hlk ⊢
              clear hrd hlkd hrg
              go_upto_region 26 with (first
                | ((with_reducible refine at_load 132 ?_); refine wpList_load_mid rfl 132 _ rfl b (o + k * 6) rfl (gstCells r) _ hrr Try.underlying132 rfl (by kernel_rfl) ?_)
                | ((with_reducible refine at_store 132 ?_); refine wpList_storeAll _ rfl 132 _ _ rfl wr.heap.size 132 _ (gstCells r).toArray (Blk.new wr _ _) rfl rfl rfl (by kernel_rfl) (gstCells_one r) ?_; intro W3 hy hg3 hs3; have C3 := (Chg.of_ext (Z := fun b => b = wr.heap.size) ((Ext.refl wr).alloc _)).trans (Chg.grown hg3 (by rintro k h; cases h; rfl))))
              simp only [Act.put]
              have ho := own_chg ho C3 (fun j hj e => by have := (own_some ho hj).2; omega)
              have hbx := hbx.chg C3 (fun e => by have := hbx.lt; have e2 : w.heap.size = wr.heap.size := e; omega)
              have B3 : Below w.heap.size w W3 := hBk.trans (C3.below (n := w.heap.size) (fun j e => by have e2 : j = wr.heap.size := e; omega) (by omega))
              have hsz : w.heap.size + 1 ≤ W3.drew.heap.size := Nat.le_of_lt (Nat.lt_of_le_of_lt hGk hy.drew.lt)
              have hlk : lk.length ≤ 1000 := by have := hlk.out; omega
              have hcg : IntKind.i64.wrap (r.ver : Int) = (r.ver : Int) := IntWalk.i64_in _ (by have := hr.out.ver; omega)
              have hcu : IntKind.u64.wrap (r.cpus : Int) = (r.cpus : Int) := IntWalk.u64_in _ (by have := hr.out.cpus; omega)
              clear hg3 hs3 C3 hBk hrr
              refine Flow.wp_region_flow (w.heap.size + 1) [(24, fun b => w.heap.size + 1 ≤ b)] [(2, fun W => Blk W wr.heap.size 132 (gstCells r).toArray), (5, fun W => Blk W wr.heap.size 132 (gstCells r).toArray), (9, fun W => Blk W wr.heap.size 132 (gstCells r).toArray), (12, fun W => Blk W wr.heap.size 132 (gstCells r).toArray), (15, fun W => Blk W wr.heap.size 132 (gstCells r).toArray), (18, fun W => Blk W wr.heap.size 132 (gstCells r).toArray), (24, fun W => W.ownsRow (w.heap.size + 1) 9 1 (.slice A0 lk.length c0) lk.length (lk.map strV))] (by kernel_rfl) (by kernel_rfl) hsz (Flow.nz_cons (fun _ h => h) Flow.nz_nil) (Flow.facts_cons (hy.drew) (fun _ _ c h => h.chg c id) (Flow.fz_cons (Flow.no_follow (by kernel_rfl)) Flow.fz_nil) (Flow.facts_cons (hy.drew) (fun _ _ c h => h.chg c id) (Flow.fz_cons (Flow.no_follow (by kernel_rfl)) Flow.fz_nil) (Flow.facts_cons (hy.drew) (fun _ _ c h => h.chg c id) (Flow.fz_cons (Flow.no_follow (by kernel_rfl)) Flow.fz_nil) (Flow.facts_cons (hy.drew) (fun _ _ c h => h.chg c id) (Flow.fz_cons (Flow.no_follow (by kernel_rfl)) Flow.fz_nil) (Flow.facts_cons (hy.drew) (fun _ _ c h => h.chg c id) (Flow.fz_cons (Flow.no_follow (by kernel_rfl)) Flow.fz_nil) (Flow.facts_cons (hy.drew) (fun _ _ c h => h.chg c id) (Flow.fz_cons (Flow.no_follow (by kernel_rfl)) Flow.fz_nil) (Flow.facts_cons (ho.drew) (fun _ _ c h => own_chg h c (fun _ _ => id)) (Flow.fz_cons (Flow.no_follow (by kernel_rfl)) Flow.fz_nil) Flow.facts_nil))))))) ?_
              refine Flow.pass_old 3 (Flow.met_none rfl) (.inl rfl) (by kernel_rfl) (by kernel_rfl) rfl ?_
              apply Flow.pass_val (hm := (Flow.met_none rfl))
              · intro a W hH
                have e0 := Flow.see_old 9 hH.sees (by kernel_rfl) (by kernel_rfl) rfl
                go_simp; first | done | rfl
              refine Flow.pass_val (.int .i64 r.g) (Flow.met_none rfl) (fun a W hH => ?_) ?_
              · have e0 := Flow.see_new 101 1 hH.sees (by kernel_rfl) (by kernel_rfl) rfl rfl
                have fa0 : (fun W => Blk W wr.heap.size 132 (gstCells r).toArray) W := hH.fact _ (List.mem_of_getElem? (i := 0) rfl) rfl
                have c := fa0.cell 0; simp only [gstCells] at c; go_simp
              refine Flow.pass_step (Reg.eqs (.string ⟨(digStr r.g).toArray⟩)) (fun _ _ => Flow.kept_eqs _ _) (Flow.met_none rfl) (fun a W hH => ?_) ?_
              · have e0 := Flow.see_new 102 2 hH.sees (by kernel_rfl) (by kernel_rfl) rfl rfl
                refine Reg.wp_call rfl Try.func42 rfl (by kernel_rfl) (by simp [Act.eval, e0]) (rDigits_any r.g hr.out.g.1 hr.out.g.2 W) ?_
                rintro e w' ⟨rfl, rfl⟩
                exact ⟨_, rfl, _, rfl, Below.refl _ _, rfl⟩
              apply Flow.pass_val (hm := (Flow.met_none rfl))
              · intro a W hH
                have e0 := Flow.see_old 9 hH.sees (by kernel_rfl) (by kernel_rfl) rfl
                go_simp; first | done | rfl
              refine Flow.pass_val (.int .u32 (r.ver : Nat)) (Flow.met_none rfl) (fun a W hH => ?_) ?_
              · have e0 := Flow.see_new 104 4 hH.sees (by kernel_rfl) (by kernel_rfl) rfl rfl
                have fa1 : (fun W => Blk W wr.heap.size 132 (gstCells r).toArray) W := hH.fact _ (List.mem_of_getElem? (i := 1) rfl) rfl
                have c := fa1.cell 1; simp only [gstCells] at c; go_simp
              refine Flow.pass_val (.int .i64 (r.ver : Nat)) (Flow.met_none rfl) (fun a W hH => ?_) ?_
              · have e0 := Flow.see_new 105 5 hH.sees (by kernel_rfl) (by kernel_rfl) rfl rfl
                go_simp; first | done | exact hcg
              refine Flow.pass_step (Reg.eqs (.string ⟨(digStr (r.ver : Nat)).toArray⟩)) (fun _ _ => Flow.kept_eqs _ _) (Flow.met_none rfl) (fun a W hH => ?_) ?_
              · have e0 := Flow.see_new 106 6 hH.sees (by kernel_rfl) (by kernel_rfl) rfl rfl
                refine Reg.wp_call rfl Try.func42 rfl (by kernel_rfl) (by simp [Act.eval, e0]) (rDigits_any (r.ver : Nat) (by have := hr.out.ver; omega) (by have := hr.out.ver; omega) W) ?_
                rintro e w' ⟨rfl, rfl⟩
                exact ⟨_, rfl, _, rfl, Below.refl _ _, rfl⟩
              apply Flow.pass_val (hm := (Flow.met_none rfl))
              · intro a W hH
                have e0 := Flow.see_old 9 hH.sees (by kernel_rfl) (by kernel_rfl) rfl
                go_simp; first | done | rfl
              refine Flow.pass_val (.int .u64 (r.vt : Nat)) (Flow.met_none rfl) (fun a W hH => ?_) ?_
              · have e0 := Flow.see_new 108 8 hH.sees (by kernel_rfl) (by kernel_rfl) rfl rfl
                have fa2 : (fun W => Blk W wr.heap.size 132 (gstCells r).toArray) W := hH.fact _ (List.mem_of_getElem? (i := 2) rfl) rfl
                have c := fa2.cell 2; simp only [gstCells] at c; go_simp
              refine Flow.pass_step (Reg.eqs (.string ⟨(wideStr r.vt).toArray⟩)) (fun _ _ => Flow.kept_eqs _ _) (Flow.met_none rfl) (fun a W hH => ?_) ?_
              · have e0 := Flow.see_new 109 9 hH.sees (by kernel_rfl) (by kernel_rfl) rfl rfl
                refine Reg.wp_call rfl Try.func67 rfl (by kernel_rfl) (by simp [Act.eval, e0]) (rWide_any r.vt hr.out.vt W) ?_
                rintro e w' ⟨rfl, rfl⟩
                exact ⟨_, rfl, _, rfl, Below.refl _ _, rfl⟩
              apply Flow.pass_val (hm := (Flow.met_none rfl))
              · intro a W hH
                have e0 := Flow.see_old 9 hH.sees (by kernel_rfl) (by kernel_rfl) rfl
                go_simp; first | done | rfl
              refine Flow.pass_val (.int .u64 (r.en : Nat)) (Flow.met_none rfl) (fun a W hH => ?_) ?_
              · have e0 := Flow.see_new 111 11 hH.sees (by kernel_rfl) (by kernel_rfl) rfl rfl
                have fa3 : (fun W => Blk W wr.heap.size 132 (gstCells r).toArray) W := hH.fact _ (List.mem_of_getElem? (i := 3) rfl) rfl
                have c := fa3.cell 3; simp only [gstCells] at c; go_simp
              refine Flow.pass_step (Reg.eqs (.string ⟨(wideStr r.en).toArray⟩)) (fun _ _ => Flow.kept_eqs _ _) (Flow.met_none rfl) (fun a W hH => ?_) ?_
              · have e0 := Flow.see_new 112 12 hH.sees (by kernel_rfl) (by kernel_rfl) rfl rfl
                refine Reg.wp_call rfl Try.func67 rfl (by kernel_rfl) (by simp [Act.eval, e0]) (rWide_any r.en hr.out.en W) ?_
                rintro e w' ⟨rfl, rfl⟩
                exact ⟨_, rfl, _, rfl, Below.refl _ _, rfl⟩
              apply Flow.pass_val (hm := (Flow.met_none rfl))
              · intro a W hH
                have e0 := Flow.see_old 9 hH.sees (by kernel_rfl) (by kernel_rfl) rfl
                go_simp; first | done | rfl
              refine Flow.pass_val (.int .u64 (r.dt : Nat)) (Flow.met_none rfl) (fun a W hH => ?_) ?_
              · have e0 := Flow.see_new 114 14 hH.sees (by kernel_rfl) (by kernel_rfl) rfl rfl
                have fa4 : (fun W => Blk W wr.heap.size 132 (gstCells r).toArray) W := hH.fact _ (List.mem_of_getElem? (i := 4) rfl) rfl
                have c := fa4.cell 4; simp only [gstCells] at c; go_simp
              refine Flow.pass_step (Reg.eqs (.string ⟨(wideStr r.dt).toArray⟩)) (fun _ _ => Flow.kept_eqs _ _) (Flow.met_none rfl) (fun a W hH => ?_) ?_
              · have e0 := Flow.see_new 115 15 hH.sees (by kernel_rfl) (by kernel_rfl) rfl rfl
                refine Reg.wp_call rfl Try.func67 rfl (by kernel_rfl) (by simp [Act.eval, e0]) (rWide_any r.dt hr.out.dt W) ?_
                rintro e w' ⟨rfl, rfl⟩
                exact ⟨_, rfl, _, rfl, Below.refl _ _, rfl⟩
              apply Flow.pass_val (hm := (Flow.met_none rfl))
              · intro a W hH
                have e0 := Flow.see_old 9 hH.sees (by kernel_rfl) (by kernel_rfl) rfl
                go_simp; first | done | rfl
              refine Flow.pass_val (.int .u32 (r.cpus : Nat)) (Flow.met_none rfl) (fun a W hH => ?_) ?_
              · have e0 := Flow.see_new 117 17 hH.sees (by kernel_rfl) (by kernel_rfl) rfl rfl
                have fa5 : (fun W => Blk W wr.heap.size 132 (gstCells r).toArray) W := hH.fact _ (List.mem_of_getElem? (i := 5) rfl) rfl
                have c := fa5.cell 5; simp only [gstCells] at c; go_simp
              refine Flow.pass_val (.int .u64 (r.cpus : Nat)) (Flow.met_none rfl) (fun a W hH => ?_) ?_
              · have e0 := Flow.see_new 118 18 hH.sees (by kernel_rfl) (by kernel_rfl) rfl rfl
                go_simp; first | done | exact hcu
              refine Flow.pass_step (Reg.eqs (.string ⟨(wideStr r.cpus).toArray⟩)) (fun _ _ => Flow.kept_eqs _ _) (Flow.met_none rfl) (fun a W hH => ?_) ?_
              · have e0 := Flow.see_new 119 19 hH.sees (by kernel_rfl) (by kernel_rfl) rfl rfl
                refine Reg.wp_call rfl Try.func67 rfl (by kernel_rfl) (by simp [Act.eval, e0]) (rWide_any r.cpus (Nat.lt_of_lt_of_le hr.out.cpus (by decide)) W) ?_
                rintro e w' ⟨rfl, rfl⟩
                exact ⟨_, rfl, _, rfl, Below.refl _ _, rfl⟩
              refine Flow.pass_lin [24] (fun v W => ∃ b, v = .slice (some ⟨b, 0, none⟩) 12 12 ∧ Blk W b 9 ((gstW r).map strV).toArray) (Flow.kept_lin [24] (fun _ _ _ c ⟨b, h1, h2⟩ => ⟨b, h1, h2.chg c id⟩) (Flow.lz_cons (fun _ => .inl rfl) Flow.lz_nil)) (Flow.met_none rfl) (fun a W hH => ?_) ?_
              · have e0 := Flow.see_new 103 3 hH.sees (by kernel_rfl) (by kernel_rfl) rfl rfl
                have e1 := Flow.see_new 107 7 hH.sees (by kernel_rfl) (by kernel_rfl) rfl rfl
                have e2 := Flow.see_new 110 10 hH.sees (by kernel_rfl) (by kernel_rfl) rfl rfl
                have e3 := Flow.see_new 113 13 hH.sees (by kernel_rfl) (by kernel_rfl) rfl rfl
                have e4 := Flow.see_new 116 16 hH.sees (by kernel_rfl) (by kernel_rfl) rfl rfl
                have e5 := Flow.see_new 120 20 hH.sees (by kernel_rfl) (by kernel_rfl) rfl rfl
                refine Flow.wp_run (Flow.reg_buildSlice _ rfl (by simp [Act.eval, strV, e0, e1, e2, e3, e4, e5]) (run_strs W 12 (gstW r) _ rfl (by decide) (by decide) rfl)) ?_
                exact ⟨_, rfl, Chg.of_ext ((Ext.refl W).alloc _), W.heap.size, rfl, Blk.new _ _ _⟩
              refine Flow.pass_step (Reg.eqs (.string ⟨(joinWs (gstW r)).toArray⟩)) (fun _ _ => Flow.kept_eqs _ _) (Flow.met_none rfl) (fun a W hH => ?_) ?_
              · obtain ⟨b0, e0, q0⟩ := Flow.see_lin 121 21 hH.sees (by kernel_rfl) (by kernel_rfl) rfl rfl (by kernel_rfl)
                refine Reg.wp_call rfl Try.func66 rfl (by kernel_rfl) (by simp [Act.eval, e0]) (join_any b0 (gstW r) W q0 12 (Lib.hid rfl) (by omega) (gstW_len r hr.out)) ?_
                rintro e w' ⟨rfl, rfl⟩
                exact ⟨_, rfl, _, rfl, Below.refl _ _, rfl⟩
              refine Flow.pass_lin [24] (fun v W => ∃ b, v = .slice (some ⟨b, 0, none⟩) 1 1 ∧ Blk W b 9 #[strV (joinWs (gstW r))]) (Flow.kept_lin [24] (fun _ _ _ c ⟨b, h1, h2⟩ => ⟨b, h1, h2.chg c id⟩) (Flow.lz_cons (fun _ => .inl rfl) Flow.lz_nil)) (Flow.met_none rfl) (fun a W hH => ?_) ?_
              · have e0 := Flow.see_new 122 22 hH.sees (by kernel_rfl) (by kernel_rfl) rfl rfl
                refine Flow.wp_run (Flow.reg_buildSlice #[(0, .string ⟨(joinWs (gstW r)).toArray⟩)] rfl (by simp [Act.eval, e0]) (run_str1 W (joinWs (gstW r)))) ?_
                exact ⟨_, rfl, Chg.of_ext ((Ext.refl W).alloc _), W.heap.size, rfl, Blk.new _ _ _⟩
              refine Flow.pass_list (fun v W => Ls (w.heap.size + 1) (lk ++ [(joinWs (gstW r))]) v W) (Flow.kept_of (fun _ _ _ c h => h.chg0 c) (Flow.kz_cons (Flow.no_follow (by kernel_rfl)) Flow.kz_nil)) (Flow.met_none rfl) (fun a W hH => ?_) ?_
              · have e0 := Flow.see_new 100 0 hH.sees (by kernel_rfl) (by kernel_rfl) rfl rfl
                obtain ⟨b1, e1, q1⟩ := Flow.see_lin 123 23 hH.sees (by kernel_rfl) (by kernel_rfl) rfl rfl (by kernel_rfl)
                have fa6 : (fun W => W.ownsRow (w.heap.size + 1) 9 1 (.slice A0 lk.length c0) lk.length (lk.map strV)) W := hH.fact _ (List.mem_of_getElem? (i := 6) rfl) rfl
                refine wpList_app W elS rfl _ _ rfl (w.heap.size + 1) A0 (lk.length) c0 _ (by simpa [Act.eval] using e0) fa6 _ (some ⟨b1, 0, none⟩) 1 1 [strV (joinWs (gstW r))] (by simpa [Act.eval] using e1) (by have := q1.rd (size := 1) (n := 1) (by simp); simpa using this) (by simpa using strV_one [(joinWs (gstW r))]) (by omega) (by omega) (Nat.le_trans hsz hH.below.size) ?_
                intro A' c' W2 hO2 hg hB _
                exact Flow.qq_nil ⟨_, rfl, Chg.of_below hB (fun k hk _ => hk), Ls.of hO2⟩
              refine Flow.pass_copy 124 24 (Flow.met_none rfl) (.inr rfl) (by kernel_rfl) (by kernel_rfl) rfl rfl (Flow.kept_of (fun _ _ _ c h => h.chg0 c) (Flow.kz_cons (Flow.no_follow (by kernel_rfl)) Flow.kz_nil)) ?_
              refine Flow.pass_end [none, none, none, some 3, none, none, none, none, none, none, none, none, none, none, none, none, none, none, none, none, none, none, none, none, none, none, none, none, none, none, none, none, none, none, none, none, none, none, none, none, none, none, none, none, none, none, none, none, none, none, none, none, none, none, none, none, none, none, none, none, none, none, none, none, none, none, none, none, none, none, none, none, none, none, none, none, none, none, none, none, none, none, none, none, none, none, none, none, none, none, none, none, none, none, none, none, none, none, none, none, some 100, some 101, some 102, some 103, some 104, some 105, some 106, some 107, some 108, some 109, some 110, some 111, some 112, some 113, some 114, some 115, some 116, some 117, some 118, some 119, some 120, some 121, some 122, some 123, some 124, none, none, none, none, none, none, none, none, none, none, none, none, none, none, none, none, none, none, none, none, none, none, none, none, none] (by kernel_rfl) ?_
              intro f gg w9 hB hfa hT hfg
              have h3 := hT 25 _ (by kernel_rfl) rfl
              rw [← hfg 3 25 (by kernel_rfl)] at h3
              have hs9 : w.heap.size + 1 ≤ w9.heap.size := Nat.le_trans hsz hB.size
              have B9 := B3.drew.trans (hB.mono (Nat.le_succ _))
              have hbx := hbx.drew.below hB (Nat.lt_succ_self _)
              clear hfa hT hfg hB B3 hy
              obtain ⟨A5, c5, e5, o5⟩ := h3
              rw [List.length_append] at e5
              simp only [Reg.sel, e5]
              go_wp2
              go_roundw
              case rel => ((try ((repeat apply Exists.intro); refine ⟨?_, rfl⟩)); exact ⟨k + 1, by omega, by go_num, by rw [List.take_succ_eq_append_getElem hkl, List.map_append, ← List.append_assoc, ← Hlk.out, List.map_cons, List.map_nil, ← Hr.out]; exact ⟨A5, c5, by rw [List.length_append], o5⟩, hbx, B9, hs9⟩)
              case measure => simp [intOf]; omega
            · have hke : k = n7 := by omega
              subst hke
              rw [List.take_of_length_le (by rw [hgst.out]; exact Nat.le_refl _)] at ho hlk ⊢
              have hl5 : l4 ++ gst.map (fun r => joinWs (gstW r)) = l1 := by
                rw [Hl1.out, Hl4.out, Hl3.out, Hl2.out]; simp only [manLines, List.append_assoc]
              rw [hl5] at ho hlk ⊢
              have hl1 : Hid (l1.length ≤ 300) := Lib.hid (by have := hlk.out; omega)
              have hls : Ls (w.heap.size + 1) l1 (.slice A0 l1.length c0) wr := ⟨A0, c0, rfl, ho⟩
              have c39 := (hbx.cell 3).trans g3
              have B9 := hBk
              have hs9 := hGk
              clear hlk ho hbx hBk hGk hl5
              go_wp2_with fail
              clear c39
              go_loopw [3, 129] (fun v i wr => ∃ k : Nat, k ≤ n3 ∧ i = .int .i64 k ∧ Ls (w.heap.size + 1) (l1 ++ ctrLines ctr k) v wr ∧ Below w.heap.size w wr ∧ w.heap.size + 1 ≤ wr.heap.size) (fun _ i _ => n3 - (intOf i).toNat)
              case atStart => exact ⟨0, Nat.zero_le _, rfl, by simpa [ctrLines] using hls, B9, hs9⟩
              case round =>
                clear hls B9 hs9
                obtain ⟨k, hk, rfl, ⟨A0, c0, rfl, ho⟩, hBk, hGk⟩ := hrel
                have hlk : Hid ((l1 ++ ctrLines ctr k).length ≤ 400) := Lib.hid (by rw [List.length_append, ctrLines_len]; have := hl1.out; omega)
                by_cases hk2 : k < n3
                · have hkl : k < ctr.length := by rw [hctr.out]; exact hk2
                  obtain ⟨b, o, rfl, hbG, hrg⟩ := (hR3.below hBk).range (by omega)
                  obtain ⟨r, hrd⟩ : ∃ r, r = ctr[k] := ⟨_, rfl⟩
                  have hr : Hid (ctrOk r) := Lib.hid (by rw [hrd]; exact hcok.out _ (List.getElem_mem hkl))
                  have hrr := range_row ctrCells 2 ctr o (fun x _ => rfl) hrg k hkl
                  rw [← hrd] at hrr
                  have Hr := Lib.hid hrd
                  obtain ⟨lk, hlkd⟩ : ∃ lk, lk = l1 ++ ctrLines ctr k := ⟨_, rfl⟩
                  have Hlk := Lib.hid hlkd
                  rw [← hlkd] at ho hlk ⊢
                  clear hrd hlkd hrg
                  go_upto_region 31 with (first
                    | ((with_reducible refine at_load 127 ?_); refine wpList_load_mid rfl 127 _ rfl b (o + k * 2) rfl (ctrCells r) _ hrr Try.underlying127 rfl (by kernel_rfl) ?_)
                    | ((with_reducible refine at_store 127 ?_); refine wpList_storeAll _ rfl 127 _ _ rfl wr.heap.size 127 _ (ctrCells r).toArray (Blk.new wr _ _) rfl rfl rfl (by kernel_rfl) (ctrCells_one r) ?_; intro W3 hy hg3 hs3; have C3 := (Chg.of_ext (Z := fun b => b = wr.heap.size) ((Ext.refl wr).alloc _)).trans (Chg.grown hg3 (by rintro k h; cases h; rfl))))
                  simp only [Act.put]
                  have ho := own_chg ho C3 (fun j hj e => by have := (own_some ho hj).2; omega)
                  have B3 : Below w.heap.size w W3 := hBk.trans (C3.below (n := w.heap.size) (fun j e => by have e2 : j = wr.heap.size := e; omega) (by omega))
                  have hsz : w.heap.size + 1 ≤ W3.drew.heap.size := Nat.le_of_lt (Nat.lt_of_le_of_lt hGk hy.drew.lt)
                  have hlk : lk.length ≤ 1000 := by have := hlk.out; omega
                  have hcg : IntKind.i64.wrap (r.1 : Int) = (r.1 : Int) := IntWalk.i64_in _ (by have := hr.out.1; omega)
                  clear hg3 hs3 C3 hBk hrr
                  refine Flow.wp_region_flow (w.heap.size + 1) [(13, fun b => w.heap.size + 1 ≤ b)] [(4, fun W => Blk W wr.heap.size 127 (ctrCells r).toArray), (8, fun W => Blk W wr.heap.size 127 (ctrCells r).toArray), (13, fun W => W.ownsRow (w.heap.size + 1) 9 1 (.slice A0 lk.length c0) lk.length (lk.map strV))] (by kernel_rfl) (by kernel_rfl) hsz (Flow.nz_cons (fun _ h => h) Flow.nz_nil) (Flow.facts_cons (hy.drew) (fun _ _ c h => h.chg c id) (Flow.fz_cons (Flow.no_follow (by kernel_rfl)) Flow.fz_nil) (Flow.facts_cons (hy.drew) (fun _ _ c h => h.chg c id) (Flow.fz_cons (Flow.no_follow (by kernel_rfl)) Flow.fz_nil) (Flow.facts_cons (ho.drew) (fun _ _ c h => own_chg h c (fun _ _ => id)) (Flow.fz_cons (Flow.no_follow (by kernel_rfl)) Flow.fz_nil) Flow.facts_nil))) ?_
                  refine Flow.pass_old 3 (Flow.met_none rfl) (.inl rfl) (by kernel_rfl) (by kernel_rfl) rfl ?_
                  refine Flow.pass_old 10 (Flow.met_none rfl) (.inl rfl) (by kernel_rfl) (by kernel_rfl) rfl ?_
                  refine Flow.pass_step (Reg.eqs (.string ⟨(digStr (k : Nat)).toArray⟩)) (fun _ _ => Flow.kept_eqs _ _) (Flow.met_none rfl) (fun a W hH => ?_) ?_
                  · have e0 := Flow.see_new 135 1 hH.sees (by kernel_rfl) (by kernel_rfl) rfl rfl
                    refine Reg.wp_call rfl Try.func42 rfl (by kernel_rfl) (by simp [Act.eval, e0]) (rDigits_any (k : Nat) (by omega) (by omega) W) ?_
                    rintro e w' ⟨rfl, rfl⟩
                    exact ⟨_, rfl, _, rfl, Below.refl _ _, rfl⟩
                  apply Flow.pass_val (hm := (Flow.met_none rfl))
                  · intro a W hH
                    have e0 := Flow.see_old 11 hH.sees (by kernel_rfl) (by kernel_rfl) rfl
                    go_simp; first | done | rfl
                  refine Flow.pass_val (.int .u32 (r.1 : Nat)) (Flow.met_none rfl) (fun a W hH => ?_) ?_
                  · have e0 := Flow.see_new 137 3 hH.sees (by kernel_rfl) (by kernel_rfl) rfl rfl
                    have fa0 : (fun W => Blk W wr.heap.size 127 (ctrCells r).toArray) W := hH.fact _ (List.mem_of_getElem? (i := 0) rfl) rfl
                    have c := fa0.cell 0; simp only [ctrCells] at c; go_simp
                  refine Flow.pass_val (.int .i64 (r.1 : Nat)) (Flow.met_none rfl) (fun a W hH => ?_) ?_
                  · have e0 := Flow.see_new 138 4 hH.sees (by kernel_rfl) (by kernel_rfl) rfl rfl
                    go_simp; first | done | exact hcg
                  refine Flow.pass_step (Reg.eqs (.string ⟨(digStr (r.1 : Nat)).toArray⟩)) (fun _ _ => Flow.kept_eqs _ _) (Flow.met_none rfl) (fun a W hH => ?_) ?_
                  · have e0 := Flow.see_new 139 5 hH.sees (by kernel_rfl) (by kernel_rfl) rfl rfl
                    refine Reg.wp_call rfl Try.func42 rfl (by kernel_rfl) (by simp [Act.eval, e0]) (rDigits_any (r.1 : Nat) (by have := hr.out.1; omega) (by have := hr.out.1; omega) W) ?_
                    rintro e w' ⟨rfl, rfl⟩
                    exact ⟨_, rfl, _, rfl, Below.refl _ _, rfl⟩
                  apply Flow.pass_val (hm := (Flow.met_none rfl))
                  · intro a W hH
                    have e0 := Flow.see_old 11 hH.sees (by kernel_rfl) (by kernel_rfl) rfl
                    go_simp; first | done | rfl
                  refine Flow.pass_val (.int .i64 r.2) (Flow.met_none rfl) (fun a W hH => ?_) ?_
                  · have e0 := Flow.see_new 141 7 hH.sees (by kernel_rfl) (by kernel_rfl) rfl rfl
                    have fa1 : (fun W => Blk W wr.heap.size 127 (ctrCells r).toArray) W := hH.fact _ (List.mem_of_getElem? (i := 1) rfl) rfl
                    have c := fa1.cell 1; simp only [ctrCells] at c; go_simp
                  refine Flow.pass_step (Reg.eqs (.string ⟨(nameOf r.2).toArray⟩)) (fun _ _ => Flow.kept_eqs _ _) (Flow.met_none rfl) (fun a W hH => ?_) ?_
                  · have e0 := Flow.see_new 142 8 hH.sees (by kernel_rfl) (by kernel_rfl) rfl rfl
                    refine Reg.wp_call rfl Try.func48 rfl (by kernel_rfl) (by simp [Act.eval, e0]) (rName_any r.2 hr.out.2.1 hr.out.2.2 W) ?_
                    rintro e w' ⟨rfl, hB⟩
                    exact ⟨_, rfl, _, rfl, hB, rfl⟩
                  refine Flow.pass_lin [13] (fun v W => ∃ b, v = .slice (some ⟨b, 0, none⟩) 4 4 ∧ Blk W b 9 ((ctrW k r).map strV).toArray) (Flow.kept_lin [13] (fun _ _ _ c ⟨b, h1, h2⟩ => ⟨b, h1, h2.chg c id⟩) (Flow.lz_cons (fun _ => .inl rfl) Flow.lz_nil)) (Flow.met_none rfl) (fun a W hH => ?_) ?_
                  · have e0 := Flow.see_new 136 2 hH.sees (by kernel_rfl) (by kernel_rfl) rfl rfl
                    have e1 := Flow.see_new 140 6 hH.sees (by kernel_rfl) (by kernel_rfl) rfl rfl
                    have e2 := Flow.see_new 143 9 hH.sees (by kernel_rfl) (by kernel_rfl) rfl rfl
                    refine Flow.wp_run (Flow.reg_buildSlice _ rfl (by simp [Act.eval, strV, e0, e1, e2]) (run_strs W 4 (ctrW k r) _ rfl (by decide) (by decide) rfl)) ?_
                    exact ⟨_, rfl, Chg.of_ext ((Ext.refl W).alloc _), W.heap.size, rfl, Blk.new _ _ _⟩
                  refine Flow.pass_step (Reg.eqs (.string ⟨(joinWs (ctrW k r)).toArray⟩)) (fun _ _ => Flow.kept_eqs _ _) (Flow.met_none rfl) (fun a W hH => ?_) ?_
                  · obtain ⟨b0, e0, q0⟩ := Flow.see_lin 144 10 hH.sees (by kernel_rfl) (by kernel_rfl) rfl rfl (by kernel_rfl)
                    refine Reg.wp_call rfl Try.func66 rfl (by kernel_rfl) (by simp [Act.eval, e0]) (join_any b0 (ctrW k r) W q0 4 (Lib.hid rfl) (by omega) (ctrW_len k r (by omega) hr.out)) ?_
                    rintro e w' ⟨rfl, rfl⟩
                    exact ⟨_, rfl, _, rfl, Below.refl _ _, rfl⟩
                  refine Flow.pass_lin [13] (fun v W => ∃ b, v = .slice (some ⟨b, 0, none⟩) 1 1 ∧ Blk W b 9 #[strV (joinWs (ctrW k r))]) (Flow.kept_lin [13] (fun _ _ _ c ⟨b, h1, h2⟩ => ⟨b, h1, h2.chg c id⟩) (Flow.lz_cons (fun _ => .inl rfl) Flow.lz_nil)) (Flow.met_none rfl) (fun a W hH => ?_) ?_
                  · have e0 := Flow.see_new 145 11 hH.sees (by kernel_rfl) (by kernel_rfl) rfl rfl
                    refine Flow.wp_run (Flow.reg_buildSlice #[(0, .string ⟨(joinWs (ctrW k r)).toArray⟩)] rfl (by simp [Act.eval, e0]) (run_str1 W (joinWs (ctrW k r)))) ?_
                    exact ⟨_, rfl, Chg.of_ext ((Ext.refl W).alloc _), W.heap.size, rfl, Blk.new _ _ _⟩
                  refine Flow.pass_list (fun v W => Ls (w.heap.size + 1) (lk ++ [(joinWs (ctrW k r))]) v W) (Flow.kept_of (fun _ _ _ c h => h.chg0 c) (Flow.kz_cons (Flow.no_follow (by kernel_rfl)) Flow.kz_nil)) (Flow.met_none rfl) (fun a W hH => ?_) ?_
                  · have e0 := Flow.see_new 134 0 hH.sees (by kernel_rfl) (by kernel_rfl) rfl rfl
                    obtain ⟨b1, e1, q1⟩ := Flow.see_lin 146 12 hH.sees (by kernel_rfl) (by kernel_rfl) rfl rfl (by kernel_rfl)
                    have fa2 : (fun W => W.ownsRow (w.heap.size + 1) 9 1 (.slice A0 lk.length c0) lk.length (lk.map strV)) W := hH.fact _ (List.mem_of_getElem? (i := 2) rfl) rfl
                    refine wpList_app W elS rfl _ _ rfl (w.heap.size + 1) A0 (lk.length) c0 _ (by simpa [Act.eval] using e0) fa2 _ (some ⟨b1, 0, none⟩) 1 1 [strV (joinWs (ctrW k r))] (by simpa [Act.eval] using e1) (by have := q1.rd (size := 1) (n := 1) (by simp); simpa using this) (by simpa using strV_one [(joinWs (ctrW k r))]) (by omega) (by omega) (Nat.le_trans hsz hH.below.size) ?_
                    intro A' c' W2 hO2 hg hB _
                    exact Flow.qq_nil ⟨_, rfl, Chg.of_below hB (fun k hk _ => hk), Ls.of hO2⟩
                  refine Flow.pass_copy 147 13 (Flow.met_none rfl) (.inr rfl) (by kernel_rfl) (by kernel_rfl) rfl rfl (Flow.kept_of (fun _ _ _ c h => h.chg0 c) (Flow.kz_cons (Flow.no_follow (by kernel_rfl)) Flow.kz_nil)) ?_
                  refine Flow.pass_end [none, none, none, some 3, none, none, none, none, none, none, none, none, none, none, none, none, none, none, none, none, none, none, none, none, none, none, none, none, none, none, none, none, none, none, none, none, none, none, none, none, none, none, none, none, none, none, none, none, none, none, none, none, none, none, none, none, none, none, none, none, none, none, none, none, none, none, none, none, none, none, none, none, none, none, none, none, none, none, none, none, none, none, none, none, none, none, none, none, none, none, none, none, none, none, none, none, none, none, none, none, none, none, none, none, none, none, none, none, none, none, none, none, none, none, none, none, none, none, none, none, none, none, none, none, none, none, none, none, none, none, none, none, none, none, some 134, some 135, some 136, some 137, some 138, some 139, some 140, some 141, some 142, some 143, some 144, some 145, some 146, some 147, none, none] (by kernel_rfl) ?_
                  intro f gg w9 hB hfa hT hfg
                  have h3 := hT 14 _ (by kernel_rfl) rfl
                  rw [← hfg 3 14 (by kernel_rfl)] at h3
                  have hs9 : w.heap.size + 1 ≤ w9.heap.size := Nat.le_trans hsz hB.size
                  have B9 := B3.drew.trans (hB.mono (Nat.le_succ _))
                  clear hfa hT hfg hB B3 hy
                  obtain ⟨A5, c5, e5, o5⟩ := h3
                  rw [List.length_append] at e5
                  simp only [Reg.sel, e5]
                  go_wp2
                  go_roundw
                  case rel => ((try ((repeat apply Exists.intro); refine ⟨?_, rfl⟩)); exact ⟨k + 1, by omega, by go_num, by rw [ctrLines_succ ctr k hkl, ← List.append_assoc, ← Hlk.out, ← Hr.out]; exact ⟨A5, c5, by rw [List.length_append], o5⟩, B9, hs9⟩)
                  case measure => simp [intOf]; omega
                · have hke : k = n3 := by omega
                  subst hke
                  go_wp2
                  go_ret
                  exact ⟨A0, c0, by rw [List.length_append]; rfl, Rd.of_own ho, hBk⟩
end Go.Proofs.Ytnjfghlgknnhmaa
