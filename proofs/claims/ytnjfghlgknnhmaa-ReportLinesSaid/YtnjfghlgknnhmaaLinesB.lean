/-
  Walk: report.Lines of a refused result without counters; the law's example.
-/
import Derived.Test.YtnjfghlgknnhmaaLinesA
namespace Go.Proofs.Ytnjfghlgknnhmaa
open Go.RowKit

def refWords (x y z : Int) : List (List UInt8) := [[114, 101, 102, 117, 115, 101, 100], nameOf x, [97, 116], digStr y, [114, 117, 108, 101], digStr z]
def inI (x : Int) : Prop := -9223372036854775808 ≤ x ∧ x < 9223372036854775808
theorem nameTab_len : ∀ x ∈ nameTab, x.2.length ≤ 100 := by decide
theorem nameOf_len (x : Int) (h : inI x) : (nameOf x).length ≤ 1000 := by
  unfold nameOf
  cases e : nameTab.find? (byNum x) with
  | some p => have := nameTab_len p (List.mem_of_find?_eq_some e); simp only; omega
  | none => have := digStr_length x h.1 h.2; simp; omega
theorem refWords_len (x y z : Int) (hx : inI x) (hy : inI y) (hz : inI z) : ∀ s ∈ refWords x y z, s.length ≤ 1000 := by
  intro s hs
  simp only [refWords, List.mem_cons, List.not_mem_nil, or_false] at hs
  have h1 := digStr_length y hy.1 hy.2
  have h2 := digStr_length z hz.1 hz.2
  have h3 := nameOf_len x hx
  rcases hs with rfl | rfl | rfl | rfl | rfl | rfl <;> first | assumption | omega | (simp)
theorem run_str6 (w : World) (x y z : Int) : (Instr.buildSlice 80 6 #[(0, .string ⟨#[114, 101, 102, 117, 115, 101, 100]⟩), (1, .string ⟨(nameOf x).toArray⟩), (2, .string ⟨#[97, 116]⟩), (3, .string ⟨(digStr y).toArray⟩), (4, .string ⟨#[114, 117, 108, 101]⟩), (5, .string ⟨(digStr z).toArray⟩)]).run Try.prog w = .ok (.slice (some ⟨w.heap.size, 0, none⟩) 6 6) (w.alloc (.cells ((refWords x y z).map strV).toArray 9)) := by
  have := run_buildSlice_all (P := Try.prog) w elS 6 _ ((refWords x y z).map strV) rfl rfl (by omega) (by omega) (by intro v hv; simp at hv; obtain ⟨s, _, rfl⟩ := hv; rfl)
  rw [show flat ((refWords x y z).map strV) = (refWords x y z).map strV from rfl] at this
  exact this

set_option maxRecDepth 100000 in
set_option maxHeartbeats 4000000 in
theorem mLines_ref0 (C : Array Value) (x y z : Int) (hx : Hid (inI x)) (hy : Hid (inI y)) (hz : Hid (inI z)) (hx0 : Hid (x ≠ 0)) (h0 : C[0]? = some (.int .i64 x)) (h1 : C[1]? = some (.int .i64 y)) (h2 : C[2]? = some (.int .i64 z)) (h3 : C[3]? = some (.slice none 0 0)) (w : World) :
    Calls Try.prog 39 #[.agg C] w fun e w' => ∃ A c, e = .returned (.slice A 1 c) ∧ Rd w' w'.heap.size 1 A 1 [strV (joinWs (refWords x y z))] ∧ Below w.heap.size w w' := by
  have hxn : (x != 0) = true := by simpa using hx0.out
  have hb0 := (Blk.new w 77 C)
  have c0 := (hb0.cell 0).trans h0
  have c0' : ((w.alloc (.cells C 77)).alloc (.cells #[.slice none 0 0] 123)).cell? ⟨w.heap.size, 0, none⟩ = some (.int .i64 x) := ((hb0.alloc _).cell 0).trans h0
  have c3 := ((hb0.alloc (.cells #[.slice none 0 0] 123)).cell 3).trans h3
  go_enter Try.func39, Try.ntmps39
  go_wp2_with fail
  have hbx := hb0.alloc (.cells #[.slice none 0 0] 123)
  have hpg : Blk ((w.alloc (.cells C 77)).alloc (.cells #[.slice none 0 0] 123)) (w.heap.size + 1) 123 #[.slice none 0 0] := new1 w _ _ _
  have hB1 : Below w.heap.size w ((w.alloc (.cells C 77)).alloc (.cells #[.slice none 0 0] 123)) := ((Below.refl _ _).alloc (Nat.le_refl _) _).alloc (by rw [size_alloc1]; omega) _
  clear hb0 c0 c0'
  generalize (w.alloc (.cells C 77)).alloc (.cells #[.slice none 0 0] 123) = W1 at *
  have hsz : w.heap.size + 1 ≤ W1.drew.heap.size := Nat.le_of_lt hpg.lt
  refine Flow.wp_region_flow (w.heap.size + 1) [(13, fun b => w.heap.size + 1 ≤ b)] [(13, fun W => Blk W (w.heap.size + 1) 123 #[.slice none 0 0])] (by kernel_rfl) (by kernel_rfl) hsz (Flow.nz_cons (fun _ h => h) Flow.nz_nil) (Flow.facts_cons (hpg.drew) (Flow.kept_blk id) (Flow.fz_cons (Flow.no_follow (by kernel_rfl)) Flow.fz_nil) Flow.facts_nil) ?_
  refine Flow.pass_old 3 (Flow.met_none rfl) (.inl rfl) (by kernel_rfl) (by kernel_rfl) rfl ?_
  refine Flow.pass_val (.pointer (some ⟨w.heap.size + 1, 0, none⟩)) (Flow.met_none rfl) (fun a W hH => ?_) ?_
  · have e0 := Flow.see_new 11 0 hH.sees (by kernel_rfl) (by kernel_rfl) rfl rfl
    go_simp
  apply Flow.pass_val (hm := (Flow.met_none rfl))
  · intro a W hH
    have e0 := Flow.see_new 12 1 hH.sees (by kernel_rfl) (by kernel_rfl) rfl rfl
    go_simp; first | done | rfl
  apply Flow.pass_val (hm := (Flow.met_none rfl))
  · intro a W hH
    have e0 := Flow.see_old 1 hH.sees (by kernel_rfl) (by kernel_rfl) rfl
    go_simp; first | done | rfl
  refine Flow.pass_val (.int .i64 x) (Flow.met_none rfl) (fun a W hH => ?_) ?_
  · have e0 := Flow.see_new 14 3 hH.sees (by kernel_rfl) (by kernel_rfl) rfl rfl
    have c := ((hbx.drew.below hH.below (Nat.lt_succ_self _)).cell 0).trans h0; go_simp
  refine Flow.pass_step (Reg.eqs (.string ⟨(nameOf x).toArray⟩)) (fun _ _ => Flow.kept_eqs _ _) (Flow.met_none rfl) (fun a W hH => ?_) ?_
  · have e0 := Flow.see_new 15 4 hH.sees (by kernel_rfl) (by kernel_rfl) rfl rfl
    refine Reg.wp_call rfl Try.func47 rfl (by kernel_rfl) (by simp [Act.eval, e0]) (mName_any x hx.out.1 hx.out.2 W) ?_
    rintro e w' ⟨rfl, hB⟩
    exact ⟨_, rfl, _, rfl, hB, rfl⟩
  apply Flow.pass_val (hm := (Flow.met_none rfl))
  · intro a W hH
    have e0 := Flow.see_old 1 hH.sees (by kernel_rfl) (by kernel_rfl) rfl
    go_simp; first | done | rfl
  refine Flow.pass_val (.int .i64 y) (Flow.met_none rfl) (fun a W hH => ?_) ?_
  · have e0 := Flow.see_new 17 6 hH.sees (by kernel_rfl) (by kernel_rfl) rfl rfl
    have c := ((hbx.drew.below hH.below (Nat.lt_succ_self _)).cell 1).trans h1; go_simp
  refine Flow.pass_step (Reg.eqs (.string ⟨(digStr y).toArray⟩)) (fun _ _ => Flow.kept_eqs _ _) (Flow.met_none rfl) (fun a W hH => ?_) ?_
  · have e0 := Flow.see_new 18 7 hH.sees (by kernel_rfl) (by kernel_rfl) rfl rfl
    refine Reg.wp_call rfl Try.func41 rfl (by kernel_rfl) (by simp [Act.eval, e0]) (mDigits_any y hy.out.1 hy.out.2 W) ?_
    rintro e w' ⟨rfl, hB⟩
    exact ⟨_, rfl, _, rfl, hB, rfl⟩
  apply Flow.pass_val (hm := (Flow.met_none rfl))
  · intro a W hH
    have e0 := Flow.see_old 1 hH.sees (by kernel_rfl) (by kernel_rfl) rfl
    go_simp; first | done | rfl
  refine Flow.pass_val (.int .i64 z) (Flow.met_none rfl) (fun a W hH => ?_) ?_
  · have e0 := Flow.see_new 20 9 hH.sees (by kernel_rfl) (by kernel_rfl) rfl rfl
    have c := ((hbx.drew.below hH.below (Nat.lt_succ_self _)).cell 2).trans h2; go_simp
  refine Flow.pass_step (Reg.eqs (.string ⟨(digStr z).toArray⟩)) (fun _ _ => Flow.kept_eqs _ _) (Flow.met_none rfl) (fun a W hH => ?_) ?_
  · have e0 := Flow.see_new 21 10 hH.sees (by kernel_rfl) (by kernel_rfl) rfl rfl
    refine Reg.wp_call rfl Try.func41 rfl (by kernel_rfl) (by simp [Act.eval, e0]) (mDigits_any z hz.out.1 hz.out.2 W) ?_
    rintro e w' ⟨rfl, hB⟩
    exact ⟨_, rfl, _, rfl, hB, rfl⟩
  refine Flow.pass_lin [13] (fun v W => ∃ b, v = .slice (some ⟨b, 0, none⟩) 6 6 ∧ Blk W b 9 ((refWords x y z).map strV).toArray) (Flow.kept_lin [13] (fun _ _ _ c ⟨b, h1, h2⟩ => ⟨b, h1, h2.chg c id⟩) (Flow.lz_cons (fun _ => .inl rfl) Flow.lz_nil)) (Flow.met_none rfl) (fun a W hH => ?_) ?_
  · have e0 := Flow.see_new 16 5 hH.sees (by kernel_rfl) (by kernel_rfl) rfl rfl
    have e1 := Flow.see_new 19 8 hH.sees (by kernel_rfl) (by kernel_rfl) rfl rfl
    have e2 := Flow.see_new 22 11 hH.sees (by kernel_rfl) (by kernel_rfl) rfl rfl
    refine Flow.wp_run (Flow.reg_buildSlice _ rfl (by simp [Act.eval, e0, e1, e2]) (run_str6 W x y z)) ?_
    exact ⟨_, rfl, Chg.of_ext ((Ext.refl W).alloc _), W.heap.size, rfl, Blk.new _ _ _⟩
  refine Flow.pass_gen (fun v W => ∃ A c, v = .tuple #[] ∧ Blk W (w.heap.size + 1) 123 #[.slice A 1 c] ∧ W.ownsRow (w.heap.size + 1) 9 1 (.slice A 1 c) 1 ([joinWs (refWords x y z)].map strV)) (Flow.kept_of (fun _ _ _ c ⟨A, k, h0, h1, h2⟩ => ⟨A, k, h0, h1.chg c id, own_chg h2 c (fun _ _ => id)⟩) (Flow.kz_cons (Flow.no_follow (by kernel_rfl)) Flow.kz_nil)) (Flow.met_none rfl) (fun a W hH => ?_) ?_
  · have e0 := Flow.see_new 13 2 hH.sees (by kernel_rfl) (by kernel_rfl) rfl rfl
    obtain ⟨b1, e1, q1⟩ := Flow.see_lin 23 12 hH.sees (by kernel_rfl) (by kernel_rfl) rfl rfl (by kernel_rfl)
    have fa0 : (fun W => Blk W (w.heap.size + 1) 123 #[.slice none 0 0]) W := hH.fact _ (List.mem_of_getElem? (i := 0) rfl) rfl
    refine Flow.wp_callZ rfl Try.func64 rfl (by kernel_rfl) (by simp [Act.eval, e0, e1]) (put_any (w.heap.size + 1) b1 (w.heap.size + 1) none 0 0 [] (refWords x y z) W fa0 q1 (World.ownsRow_nil _ _ _ _) (by omega) 6 (Lib.hid rfl) (by omega) (refWords_len x y z hx.out hy.out hz.out) (Nat.le_refl _)) ?_
    rintro e w' ⟨rfl, A, c, h1, h2, hB⟩
    exact ⟨_, rfl, Chg.of_below hB (fun k hk _ => hk), A, c, rfl, h1, h2⟩
  refine Flow.pass_end [none, none, none, none, none, none, none, none, none, none, none, some 11, some 12, some 13, some 14, some 15, some 16, some 17, some 18, some 19, some 20, some 21, some 22, some 23, some 24, none, none, none, none, none, none, none, none, none, none, none, none, none, none, none, none, none, none, none, none, none, none, none, none, none, none, none, none, none, none, none, none] (by kernel_rfl) ?_
  intro f gg w9 hB hfa hT hfg
  obtain ⟨A24, c24, h24, g24⟩ := hT 13 _ (by kernel_rfl) rfl
  rw [← hfg 24 13 (by kernel_rfl)] at h24
  obtain ⟨b1, o1⟩ := g24
  have B9 := hB1.drew.trans (hB.mono (Nat.le_succ _))
  have hbx9 := (hbx.drew).below hB (Nat.lt_succ_self _)
  have c39 := (hbx9.cell 3).trans h3
  have cp := b1.cell 0
  clear hfa hT hfg hB h24 hbx hpg hB1 hbx9 hsz c3
  simp only [Reg.sel]
  go_wp2_with fail
  go_loopw [32] (fun i wr => i = .int .i64 0 ∧ wr = w9) (fun _ _ => 0)
  case atStart => exact ⟨rfl, rfl⟩
  case round =>
    obtain ⟨rfl, rfl⟩ := hrel
    go_wp2
    go_ret
    exact ⟨A24, c24, rfl, Rd.of_own o1, B9⟩

theorem addr_add0 (a : Addr) : a.add 0 = a := by cases a; unfold Addr.add; split <;> simp_all
def awakeLine : List UInt8 := [114, 101, 102, 117, 115, 101, 100, 32, 98, 111, 97, 114, 100, 32, 97, 116, 32, 48, 32, 114, 117, 108, 101, 32, 48]
theorem digStr0 : digStr 0 = [48] := by simp [digStr, decStr, dlen, ddigs, decDig]
theorem name282 : nameOf 282 = [98, 111, 97, 114, 100] := by decide
theorem awakeLine_is : joinWs (refWords 282 0 0) = awakeLine := by
  rw [refWords, digStr0, name282]; rfl

set_option maxRecDepth 100000 in
set_option maxHeartbeats 4000000 in
theorem awake33 (w : World) : Calls Try.prog 36 #[] w fun e w' => e = .returned (.bool true) ∧ Below w.heap.size w w' := by
  go_enter Try.func36, Try.ntmps36
  go_wp2_with fail
  refine (mLines_ref0 _ 282 0 0 (Lib.hid (by unfold inI; omega)) (Lib.hid (by unfold inI; omega)) (Lib.hid (by unfold inI; omega)) (Lib.hid (by omega)) (by kernel_rfl) (by kernel_rfl) (by kernel_rfl) (by kernel_rfl) _).mono ?_
  rintro e W1 ⟨A, c, rfl, hr, hB⟩
  obtain ⟨⟨g, o, m⟩, rfl, hlt, hc⟩ := hr.cell 0 _ rfl
  rw [awakeLine_is, addr_add0] at hc
  simp only [strV, awakeLine] at hc

  go_wp2
  go_ret
  exact ⟨rfl, hB⟩
end Go.Proofs.Ytnjfghlgknnhmaa
