/-
  Walk: mach.New.
-/
import Derived.Test.YtjfmgoickokbjaaMaY
import Derived.Test.YtjfmgoickokbjaaMaM
import Derived.Great.Ranges
namespace Go.Proofs.Ytjfmgoickokbjaa
open Go.RowKit

def mcells (m f : Nat) (b : Bd) : Array Value := #[.pointer (some ⟨m, 0, none⟩), .pointer (some ⟨f, 0, none⟩), .int .u64 (b.ram.base : Int), .int .u64 (b.ram.size : Int), .int .u64 (b.ldr.base : Int), .int .u64 (b.ldr.size : Int), .int .i64 b.irqs, .int .i64 b.streams, .int .i64 b.cpus]
theorem run_machine (w : World) (m f : Nat) (b : Bd) : (Instr.build 64 #[(0, .pointer (some ⟨m, 0, none⟩)), (1, .pointer (some ⟨f, 0, none⟩)), (2, .agg b.cells)]).run Try.prog w = .ok (.agg (mcells m f b)) w := by
  have hl : (flat [.pointer (some ⟨m, 0, none⟩), .pointer (some ⟨f, 0, none⟩), .agg b.cells]) = (mcells m f b).toList := by simp [flat, Value.cells, Bd.cells, mcells]
  have := run_build_rows (P := Try.prog) w (t := 64) (z := #[.pointer none, .pointer none, .int .u64 0, .int .u64 0, .int .u64 0, .int .u64 0, .int .i64 0, .int .i64 0, .int .i64 0]) #[(0, .pointer (some ⟨m, 0, none⟩)), (1, .pointer (some ⟨f, 0, none⟩)), (2, .agg b.cells)] [.pointer (some ⟨m, 0, none⟩), .pointer (some ⟨f, 0, none⟩), .agg b.cells] [(0, 1), (1, 1), (2, 7)]
    Try.underlying64 (by kernel_rfl) (by kernel_rfl) rfl (by simp [Rows1, Value.cells, Bd.cells]) (by rw [hl]; exact Nat.le_refl _)
  rw [hl] at this
  exact this
def machErr (b : Bd) (l : List UInt8) (J : List Ck) : Int := if b.err ≠ 0 then 282 else if 1048576 < l.length then 2 else newErr b.ram J
def MachRet (w : World) (b : Bd) (l : List UInt8) (J : List Ck) (N : Nat) (e : Ending) (w' : World) : Prop :=
  Below w.heap.size w w' ∧ ((machErr b l J ≠ 0 ∧ e = .returned (.tuple #[.pointer none, .int .i64 (machErr b l J)])) ∨
    (machErr b l J = 0 ∧ ∃ g p f F, e = .returned (.tuple #[.pointer (some ⟨g, 0, none⟩), .int .i64 0]) ∧ Blk w' g 64 (mcells p f b) ∧ FL w' f l ∧ PMem w' p b.ram (newM b.ram J) F N ∧ ∀ b, F b → w.heap.size ≤ b))
theorem err_cases (b : Bd) : b.err = 0 ∨ b.err = 282 := by
  unfold Bd.err
  split
  · exact .inl rfl
  · exact .inr rfl

set_option maxRecDepth 100000 in
set_option maxHeartbeats 2000000 in
theorem mmach_any (b : Bd) (ok : b.ok) (A : Option Addr) (n c : Nat) (l : List UInt8) (hn3 : n ≤ 3000) (A2 : Option Addr) (n2 c2 : Nat) (J : List Ck) (hJ : ∀ k ∈ J, k.l.length ≤ 5000) (hn10 : n2 ≤ 10) (w : World)
    (hR : Rd w w.heap.size 1 A n (bcells l)) (hRJ : Rd w w.heap.size 2 A2 n2 (ccells J)) (hok : ∀ k ∈ J, k.ok w w.heap.size) :
    Calls Try.prog 25 #[.agg b.cells, .slice A n c, .slice A2 n2 c2] w (MachRet w b l J (n2 * 5000)) := by
  have hb := Blk.new w 39 b.cells
  have B0 : Below w.heap.size w (w.alloc (.cells b.cells 39)) := (Below.refl _ _).alloc (Nat.le_refl _) _
  have hLn : n = l.length := by have := hR.len; rw [bcells_length] at this; omega
  have HLN := Lib.hid hLn
  have HJ := Lib.hid hJ
  have HOK := Lib.hid hok
  clear hLn hJ hok
  obtain ⟨E, hE⟩ : ∃ E, E = b.err := ⟨_, rfl⟩
  have h1 := fun W => mfit_any b ok W
  rw [← hE] at h1
  go_enter Try.func25, Try.ntmps25
  go_wp2_with ((with_reducible refine at_load 39 ?_); refine wpList_loadAllW _ rfl 39 _ rfl w.heap.size 39 b.cells hb _ rfl Try.underlying39 rfl inf_bd ?_)
  generalize w.alloc (.cells b.cells 39) = W0 at *
  refine Calls.mono (h1 W0) ?_
  rintro e W1 ⟨rfl, hB1⟩
  have hb1 := hb.below hB1 hb.lt
  have B1 := B0.trans (hB1.mono B0.size)
  clear hb B0 hB1 h1
  rcases err_cases b with h0 | h0
  · have he : Hid (machErr b l J = newErr b.ram J) := Lib.hid (by rw [machErr, if_neg (by rw [h0]; simp), if_neg (by have := HLN.out; omega)])
    rw [h0] at hE
    subst hE
    have hrg := bd_ram hb1
    clear h0
    go_wp2_with ((with_reducible refine at_load 24 ?_); refine wpList_load_midW rfl 24 _ rfl w.heap.size 0 rfl b.ram.cells.toList _ hrg Try.underlying24 rfl infSpan ?_)
    have hnew := mnew_any b.ram ok.ram A2 n2 c2 J HJ.out hn10 W1 ((hRJ.below B1).more B1.size) (fun k hk => ⟨(HOK.out k hk).at_, (HOK.out k hk).cap, ((HOK.out k hk).rd.below B1).more B1.size⟩)
    obtain ⟨E, hE⟩ : ∃ E, E = newErr b.ram J := ⟨_, rfl⟩
    unfold NewRet at hnew
    rw [← hE] at hnew
    clear hrg
    refine Calls.mono hnew ?_
    rintro e W3 ⟨hB3, ⟨h0, rfl⟩ | ⟨h0, m, F, rfl, hM, hF⟩⟩
    · have B3 := B1.trans (hB3.mono B1.size)
      have hne : (E != 0) = true := by simpa using h0
      have HE := Lib.hid hE
      have H0 := Lib.hid h0
      clear hE hnew h0
      go_wp2
      go_ret2
      exact ⟨B3, .inl ⟨by rw [he.out, ← HE.out]; exact H0.out, by rw [he.out, ← HE.out]; rfl⟩⟩
    · have B3 := B1.trans (hB3.mono B1.size)
      have hb3 := hb1.below hB3 hb1.lt
      have hR3 := (hR.below B3).more B3.size
      have HE := Lib.hid hE
      have hFw : ∀ b, F b → w.heap.size ≤ b := fun b hb => Nat.le_trans B1.size (hF b hb)
      subst h0
      clear hE hnew hb1 hF
      go_wp2_with fail
      refine Flow.wp_region_flow (W3.heap.size) [] [] (by kernel_rfl) (by kernel_rfl) (Nat.le_refl _) (fun _ h => by cases h) Flow.facts_nil ?_
      refine Flow.pass_old (X := .pointer (some ⟨m, 0, none⟩)) 9 (Flow.met_none rfl) (.inl rfl) (by kernel_rfl) (by kernel_rfl) rfl ?_
      refine Flow.pass_old (X := .slice A n c) 1 (Flow.met_none rfl) (.inl rfl) (by kernel_rfl) (by kernel_rfl) rfl ?_
      refine Flow.pass_step (fun v W => ∃ f, v = .pointer (some ⟨f, 0, none⟩) ∧ (W3.heap.size ≤ f ∧ FL W f l)) (Flow.kept_of (fun _ _ _ c ⟨f, h1, h2, h3⟩ => ⟨f, h1, h2, h3.below c.ext⟩) Flow.kz_nil) (Flow.met_none rfl) (fun a W hH => ?_) ?_
      · have e0 := Flow.see_new 30 1 hH.sees (by kernel_rfl) (by kernel_rfl) rfl rfl
        refine Reg.wp_call rfl Try.func18 rfl (by kernel_rfl) (by simp [Act.eval, e0]) (burn_any A n c l (by omega) W ((hR3.drew.below hH.below).more hH.below.size)) ?_
        rintro e w' ⟨f, rfl, h1, h2, hB⟩
        exact ⟨_, rfl, _, rfl, hB, f, rfl, Nat.le_trans hH.below.size h1, h2⟩
      refine Flow.pass_val (.agg b.cells) (Flow.met_none rfl) (fun a W hH => ?_) ?_
      · have e0 := Flow.see_old 3 hH.sees (by kernel_rfl) (by kernel_rfl) rfl
        exact reg_load 39 _ rfl e0 (hb3.drew.below hH.below hb3.lt) Try.underlying39 rfl inf_bd
      refine Flow.pass_gen (fun v W => ∃ f, v = .agg (mcells m f b) ∧ (W3.heap.size ≤ f ∧ FL W f l)) (Flow.kept_of (fun _ _ _ c ⟨f, h1, h2, h3⟩ => ⟨f, h1, h2, h3.below c.ext⟩) Flow.kz_nil) (Flow.met_none rfl) (fun a W hH => ?_) ?_
      · have e0 := Flow.see_new 29 0 hH.sees (by kernel_rfl) (by kernel_rfl) rfl rfl
        obtain ⟨f1, e1, q1⟩ := Flow.see_up 31 2 hH.sees (by kernel_rfl) (by kernel_rfl) rfl rfl
        have e2 := Flow.see_new 32 3 hH.sees (by kernel_rfl) (by kernel_rfl) rfl rfl
        refine Flow.wp_run (Flow.reg_build _ rfl (by simp [Act.eval, e0, e1, e2]) (run_machine W m f1 b)) ?_
        exact ⟨_, rfl, Chg.of_ext (Ext.refl W), f1, rfl, q1⟩
      refine Flow.pass_list (fun v W => ∃ f g, v = .pointer (some ⟨g, 0, none⟩) ∧ (W3.heap.size ≤ f ∧ W3.heap.size ≤ g ∧ Blk W g 64 (mcells m f b) ∧ FL W f l)) (Flow.kept_of (fun _ _ _ c ⟨f, g, h1, h2, h3, h4, h5⟩ => ⟨f, g, h1, h2, h3, h4.ext c.ext, h5.below c.ext⟩) Flow.kz_nil) (Flow.met_none rfl) (fun a W hH => ?_) ?_
      · obtain ⟨f0, e0, q0⟩ := Flow.see_up 33 4 hH.sees (by kernel_rfl) (by kernel_rfl) rfl rfl
        refine Go.Great.wpList_boxTo rfl 64 _ rfl _ rfl _ rfl (mcells m f0 b) (by simp [Act.eval, e0, Value.cells]) ?_
        exact Flow.qq_nil ⟨_, rfl, Chg.of_ext ((Ext.refl W).alloc _), f0, W.heap.size, rfl, q0.1, hH.below.size, Blk.new _ _ _, q0.2.below ((Ext.refl W).alloc _)⟩
      refine Flow.pass_copy 34 5 (Flow.met_none rfl) (.inr rfl) (by kernel_rfl) (by kernel_rfl) rfl rfl (Flow.kept_of (fun _ _ _ c ⟨f, g, h1, h2, h3, h4, h5⟩ => ⟨f, g, h1, h2, h3, h4.ext c.ext, h5.below c.ext⟩) Flow.kz_nil) ?_
      refine Flow.pass_val (.int .i64 0) (Flow.met_none rfl) (fun a W hH => ?_) ?_
      · go_simp; first | done | rfl
      refine Flow.pass_end [none, none, none, none, none, none, some 6, some 7, none, none, none, none, none, none, none, none, none, none, none, none, none, none, none, none, none, none, none, none, none, some 29, some 30, some 31, some 32, some 33, some 34] (by kernel_rfl) ?_
      intro f gg w9 hB hfa hT hfg
      obtain ⟨f6, g6, h6, g6⟩ := hT 6 _ (by kernel_rfl) rfl
      rw [← hfg 6 6 (by kernel_rfl)] at h6
      have h7 : f 7 = _ := (hfg 7 7 (by kernel_rfl)).trans (hT 7 _ (by kernel_rfl) rfl)
      have B9 := B3.drew.trans (hB.mono B3.size)
      have hM9 := (hM.below (n := W3.heap.size) (Below.refl _ _).drew (Nat.le_refl _)).below hB (Nat.le_refl _)
      simp only [Reg.sel, h6, h7]
      clear hT hfg hfa
      go_wp2
      go_ret2
      exact ⟨B9, .inr ⟨by rw [he.out, ← HE.out], _, m, _, F, rfl, g6.2.2.1, g6.2.2.2, hM9, hFw⟩⟩
  · have he : Hid (machErr b l J = 282) := Lib.hid (by rw [machErr, if_pos (by rw [h0]; decide)])
    rw [h0] at hE
    subst hE
    clear h0
    go_wp2
    go_ret2
    exact ⟨B1, .inl ⟨by rw [he.out]; decide, by rw [he.out]; rfl⟩⟩
end Go.Proofs.Ytjfmgoickokbjaa
