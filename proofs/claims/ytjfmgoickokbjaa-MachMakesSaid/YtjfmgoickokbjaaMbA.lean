/-
  Walk: the law MachMakes.
-/
import Derived.Test.YtjfmgoickokbjaaMaZ
import Derived.Test.YtjfmgoickokbjaaEqS
namespace Go.Proofs.Ytjfmgoickokbjaa
open Go.RowKit

theorem reg_loadRangeM {P : Program} {o : Oper} {a : Act} {w : World} (ty : TypeId) (t : Tmp) (ho : o.op = .load ty (.tmp t)) {b off : Nat} {cs : Array Value} (he : a.tmps[t]?.getD undef = .pointer (some ⟨b, off, none⟩))
    (h : w.rangeAt b off cs.toList) {d : TypeDesc} (hu : P.underlying ty = some d) (hd : d.isRow = true) (hi : (P.info? ty).map (·.size) = some cs.size) :
    (execOp a.eval o).run P w = .ok (.value (.agg cs)) w := by
  have := run_loadAt_mid (P := P) w b off ty cs.toList d h hu hd (by simpa using hi)
  simp [execOp, ho, Act.eval, he, this]
theorem reg_eqlB {P : Program} {o : Oper} {a : Act} {w : World} {t t' : TypeId} {x y : Operand} {xs ys : Array Value} {r : Bool} (ho : o.op = .binOp .eql t x y t') (hx : a.eval x = .agg xs) (hy : a.eval y = .agg ys)
    (hm : P.eqGuardType P.depth t = false) (hr : (binOp .eql t (.agg xs) (.agg ys)).run P w = .ok (.bool r) w) : (execOp a.eval o).run P w = .ok (.value (.bool r)) w := by
  unfold execOp
  simp only [ho, hx, hy, Sem.run_bind, run_eqGuard_agg w .eql t x y xs ys hm, Result.andThen_ok, hr]
  rfl
theorem bdGuard : Try.prog.eqGuardType Try.prog.depth 39 = false := by kernel_rfl
theorem u64_wf {n : Nat} (h : n < 18446744073709551616) : (Lit.int .u64 (n : Int)).wf = true := by simp [Lit.wf, IntKind.min, IntKind.max, IntKind.bits, IntKind.signed]; omega
theorem spLits (d : Nat) (s : Sp) (ok : s.ok) : ∃ l, Try.prog.keyLits (d + 2) 24 [.int .u64 (s.base : Int), .int .u64 (s.size : Int)] = some l := by
  have c1 : Try.prog.cellsOf 22 = 1 := by kernel_rfl
  have c2 : Try.prog.cellsOf 24 = 2 := by kernel_rfl
  have k0 := keyLits_int (P := Try.prog) (d := d) Try.underlying22 (s.base : Int) (u64_wf ok.base)
  have k1 := keyLits_int (P := Try.prog) (d := d) Try.underlying22 (s.size : Int) (u64_wf ok.size)
  have hk := keyLits_struct (P := Try.prog) (d := d + 1) Try.underlying24 (by kernel_rfl) [[.int .u64 (s.base : Int)], [.int .u64 (s.size : Int)]] _ (by rw [c2]; rfl)
    (fits_cons rfl c1 k0 (fits_cons rfl c1 k1 fits_nil))
  exact ⟨_, hk⟩
theorem bdLits (b : Bd) (ok : b.ok) : ∃ l, Try.prog.keyLits 3 39 b.cells.toList = some l := by
  have ci : Try.prog.cellsOf 3 = 1 := by kernel_rfl
  have c2 : Try.prog.cellsOf 24 = 2 := by kernel_rfl
  have c7 : Try.prog.cellsOf 39 = 7 := by kernel_rfl
  obtain ⟨l0, k0⟩ := spLits 0 b.ram ok.ram
  obtain ⟨l1, k1⟩ := spLits 0 b.ldr ok.ldr
  have k2 := keyLits_int (P := Try.prog) (d := 1) Try.underlying3 b.irqs ok.irqs
  have k3 := keyLits_int (P := Try.prog) (d := 1) Try.underlying3 b.streams ok.streams
  have k4 := keyLits_int (P := Try.prog) (d := 1) Try.underlying3 b.cpus ok.cpus
  have hk := keyLits_struct (P := Try.prog) (d := 2) Try.underlying39 (by kernel_rfl) [[.int .u64 (b.ram.base : Int), .int .u64 (b.ram.size : Int)], [.int .u64 (b.ldr.base : Int), .int .u64 (b.ldr.size : Int)], [.int .i64 b.irqs], [.int .i64 b.streams], [.int .i64 b.cpus]] _ (by rw [c7]; rfl)
    (fits_cons rfl c2 k0 (fits_cons rfl c2 k1 (fits_cons rfl ci k2 (fits_cons rfl ci k3 (fits_cons rfl ci k4 fits_nil)))))
  exact ⟨_, hk⟩
theorem bdEq (b : Bd) (ok : b.ok) (w : World) : (binOp .eql 39 (.agg b.cells) (.agg b.cells)).run Try.prog w = .ok (.bool true) w := by
  obtain ⟨l, hl⟩ := bdLits b ok
  have c7 : Try.prog.cellsOf 39 = 7 := by kernel_rfl
  exact run_eql_self (m := 4) (D := 3) w (by omega) (by kernel_rfl) (formed_agg Try.underlying39 rfl c7) hl
theorem mc_board {w : World} {g m f : Nat} {b : Bd} (h : Blk w g 64 (mcells m f b)) : w.rangeAt g 2 b.cells.toList := by
  intro j v hv
  rw [h.cell]
  match j, hv with
  | 0, hv => exact hv
  | 1, hv => exact hv
  | 2, hv => exact hv
  | 3, hv => exact hv
  | 4, hv => exact hv
  | 5, hv => exact hv
  | 6, hv => exact hv
theorem mkNe (p : Nat) (w : World) : (binOp .eql 57 (.pointer (some ⟨p, 0, none⟩)) (.pointer none)).run Try.prog w = .ok (.bool false) w := by kernel_rfl
theorem mkNil (w : World) : (binOp .eql 57 (.pointer none) (.pointer none)).run Try.prog w = .ok (.bool true) w := by kernel_rfl

set_option maxRecDepth 100000 in
set_option maxHeartbeats 4000000 in
theorem machMakes_walk (w : World) (b : Bd) (ok : b.ok) (A : Option Addr) (n c : Nat) (l : List UInt8) (hR : Rd w w.heap.size 1 A n (bcells l)) (hnc : n ≤ c) (_hc : c ≤ 9223372036854775807)
    (A0 : Option Addr) (n0 c0 : Nat) (J : List Ck) (hJ : Rd w w.heap.size 2 A0 n0 (ccells J)) (hJo : ∀ k ∈ J, k.ok w w.heap.size) (a : Int) (wa : (Lit.int .u64 a).wf = true) (o : Int) (wo : (Lit.int .u32 o).wf = true) :
    Calls Try.prog 7 #[.agg b.cells, .slice A n c, .slice A0 n0 c0, .int .u64 a, .int .u32 o] w fun e w' => e = .returned (.bool true) ∧ Below w.heap.size w w' := by
  obtain ⟨ad, had, rfl⟩ := nat_u64 wa
  obtain ⟨off, hoff, rfl⟩ := nat_u32 wo
  have hl : n = l.length := by have := hR.len; rw [bcells_length] at this; omega
  have hJn : n0 = J.length := by have := hJ.len; rw [ccells_length] at this; omega
  have HL := Lib.hid hl
  have HJN := Lib.hid hJn
  have HJO := Lib.hid hJo
  have hb := Blk.new w 39 b.cells
  have B0 : Below w.heap.size w (w.alloc (.cells b.cells 39)) := (Below.refl _ _).alloc (Nat.le_refl _) _
  clear wa wo hl hJn hJo
  go_enter Try.func7, Try.ntmps7
  go_wp2_with fail
  generalize w.alloc (.cells b.cells 39) = W0 at *
  refine (awake09 W0).mono ?_
  rintro e W1 ⟨rfl, hB1⟩
  have hb1 := hb.below hB1 hb.lt
  have B1 := B0.trans (hB1.mono B0.size)
  clear hb B0 hB1
  go_wp2_with fail
  have hfew := few_any none 0 0 [] A0 n0 c0 J W1 (Rd.nil _ _ _ _) ((hJ.below B1).more B1.size) (by intro d hd; cases hd) (fun k hk => ⟨(HJO.out k hk).at_, (HJO.out k hk).cap, ((HJO.out k hk).rd.below B1).more B1.size⟩)
  obtain ⟨fw, hfw⟩ : ∃ q, q = fewV [] J := ⟨_, rfl⟩
  rw [← hfw] at hfew
  refine Calls.mono hfew ?_
  rintro e W2 ⟨rfl, hB2⟩
  have hb2 := hb1.below hB2 hb1.lt
  have B2 := B1.trans (hB2.mono B1.size)
  clear hfew hb1 B1 hB2
  cases fw with
  | false =>
    clear hfw
    go_wp2
    go_ret
    exact ⟨rfl, B2⟩
  | true =>
    obtain ⟨hJ10, hJ5⟩ := few_nil hfw.symm
    have HJ5 := Lib.hid hJ5
    have hn10 : n0 ≤ 10 := by rw [HJN.out]; exact hJ10
    clear hfw hJ10 hJ5
    go_wp2_with ((with_reducible refine at_load 39 ?_); refine wpList_loadAllW _ rfl 39 _ rfl w.heap.size 39 b.cells hb2 _ rfl Try.underlying39 rfl inf_bd ?_)
    · go_ret
      exact ⟨rfl, B2⟩
    · have hn3 : n ≤ 3000 := by omega
      have hln3 : ¬ 1048576 < l.length := by rw [← HL.out]; omega
      have hmach := mmach_any b ok A n c l hn3 A0 n0 c0 J (fun k hk => by rw [← (HJO.out k hk).len]; exact HJ5.out k hk) hn10 W2 ((hR.below B2).more B2.size) ((hJ.below B2).more B2.size) (fun k hk => ⟨(HJO.out k hk).at_, (HJO.out k hk).cap, ((HJO.out k hk).rd.below B2).more B2.size⟩)
      have HE1 : Hid (b.err = 0 → machErr b l J = newErr b.ram J) := Lib.hid (fun h => by rw [machErr, if_neg (by rw [h]; simp), if_neg hln3])
      have HE2 : Hid (b.err = 282 → machErr b l J = 282) := Lib.hid (fun h => by rw [machErr, if_pos (by rw [h]; decide)])
      obtain ⟨E, hE⟩ : ∃ E, E = machErr b l J := ⟨_, rfl⟩
      unfold MachRet at hmach
      rw [← hE] at hmach HE1 HE2
      clear hln3
      refine Calls.mono hmach ?_
      rintro e W3 ⟨hB3, ⟨h0, rfl⟩ | ⟨h0, g, p, f, F, rfl, hg, hf, hM, hF⟩⟩
      · have B3 := B2.trans (hB3.mono B2.size)
        have hb3 := hb2.below hB3 hb2.lt
        have H0 := Lib.hid h0
        obtain ⟨X, hX⟩ : ∃ X, X = b.err := ⟨_, rfl⟩
        have hfit := fun W => rfit_any b ok W
        rw [← hX] at hfit
        clear hE hmach h0 hb2 hB3 B2
        go_wp2_with ((with_reducible refine at_load 39 ?_); refine wpList_loadAllW _ rfl 39 _ rfl w.heap.size 39 b.cells hb3 _ rfl Try.underlying39 rfl inf_bd ?_)
        refine Calls.mono (hfit _) ?_
        rintro e W4 ⟨rfl, hB4⟩
        have hb4 := hb3.below hB4 hb3.lt
        have B4 := B3.trans (hB4.mono B3.size)
        clear hfit hb3 B3 hB4
        rcases err_cases b with hz | hz
        · have hEn := HE1.out hz
          rw [hz] at hX
          subst hX
          have hrg := bd_ram hb4
          have hnew := rnew_any b.ram ok.ram A0 n0 c0 J (fun k hk => by rw [← (HJO.out k hk).len]; exact HJ5.out k hk) hn10 W4 ((hJ.below B4).more B4.size) (fun k hk => ⟨(HJO.out k hk).at_, (HJO.out k hk).cap, ((HJO.out k hk).rd.below B4).more B4.size⟩)
          unfold RNewRet at hnew
          rw [← hEn] at hnew
          clear hz hEn
          go_wp2_with ((with_reducible refine at_load 24 ?_); refine wpList_load_midW rfl 24 _ rfl w.heap.size 0 rfl b.ram.cells.toList _ hrg Try.underlying24 rfl infSpan ?_)
          refine Calls.mono hnew ?_
          rintro e W5 ⟨hB5, ⟨_, rfl⟩ | ⟨h0, _⟩⟩
          · have B5 := B4.trans (hB5.mono B4.size)
            have hne : (E != 0) = true := by simpa using H0.out
            have hpn := mkNil
            clear hnew hrg hB5 B4
            go_wp2
            go_ret
            exact ⟨rfl, B5⟩
          · exact absurd h0 H0.out
        · have hEn := HE2.out hz
          rw [hz] at hX
          subst hX
          subst hEn
          have hpn := mkNil
          clear hz
          go_wp2
          go_ret
          exact ⟨rfl, B4⟩
      · have hz : b.err = 0 := by
          rcases err_cases b with hz | hz
          · exact hz
          · have := HE2.out hz; omega
        have HEn := Lib.hid (HE1.out hz)
        have hr40 := ramOk_40 (newErr_ram (ram := b.ram) (J := J) (by rw [← HEn.out]; exact h0))
        have B3 := B2.trans (hB3.mono B2.size)
        have hb3 := hb2.below hB3 hb2.lt
        have hFw : ∀ b, F b → w.heap.size ≤ b := fun b hb => Nat.le_trans B2.size (hF b hb)
        have hfit := fun W => rfit_any b ok W
        rw [hz] at hfit
        subst h0
        clear hE hmach hb2 hB3 B2 hz hF
        go_wp2_with ((with_reducible refine at_load 39 ?_); refine wpList_loadAllW _ rfl 39 _ rfl w.heap.size 39 b.cells hb3 _ rfl Try.underlying39 rfl inf_bd ?_)
        refine Calls.mono (hfit _) ?_
        rintro e W4 ⟨rfl, hB4⟩
        have hb4 := hb3.below hB4 hb3.lt
        have B4 := B3.trans (hB4.mono B3.size)
        have hg4 := hg.below hB4 hg.lt
        have hf4 := hf.below hB4
        have hM4 := hM.below hB4 (Nat.le_refl _)
        clear hfit hb3 B3 hB4 hg hf hM
        have hrg := bd_ram hb4
        have hnew := rnew_any b.ram ok.ram A0 n0 c0 J (fun k hk => by rw [← (HJO.out k hk).len]; exact HJ5.out k hk) hn10 W4 ((hJ.below B4).more B4.size) (fun k hk => ⟨(HJO.out k hk).at_, (HJO.out k hk).cap, ((HJO.out k hk).rd.below B4).more B4.size⟩)
        obtain ⟨M, hMM⟩ : ∃ M, M = newM b.ram J := ⟨_, rfl⟩
        unfold RNewRet at hnew
        rw [← HEn.out, ← hMM] at hnew
        rw [← hMM] at hM4
        clear hMM
        go_wp2_with ((with_reducible refine at_load 24 ?_); refine wpList_load_midW rfl 24 _ rfl w.heap.size 0 rfl b.ram.cells.toList _ hrg Try.underlying24 rfl infSpan ?_)
        refine Calls.mono hnew ?_
        rintro e W5 ⟨hB5, ⟨h0, _⟩ | ⟨_, r, F5, rfl, hRM, hF5⟩⟩
        · exact absurd rfl h0
        have B5 := B4.trans (hB5.mono B4.size)
        have hb5 := hb4.below hB5 hb4.lt
        have hg5 := hg4.below hB5 hg4.lt
        have hf5 := hf4.below hB5
        have hM5 := hM4.below hB5 (Nat.le_refl _)
        have hpn := mkNe g
        obtain ⟨V, hV⟩ : ∃ V, V = readV b.ram M ad 3 := ⟨_, rfl⟩
        obtain ⟨E1, hE1⟩ : ∃ E1, E1 = askErr b.ram ad 3 := ⟨_, rfl⟩
        obtain ⟨G, hG⟩ : ∃ G, G = getV l off 3 := ⟨_, rfl⟩
        obtain ⟨E2, hE2⟩ : ∃ E2, E2 = getE l off 3 := ⟨_, rfl⟩
        have q1 := mread_any p b.ram ok.ram M F _ ad 3 had (by omega) W5 hM5
        have q2 := fun W h => rread_any r b.ram ok.ram hr40 M F5 (n0 * 5000) (by omega) ad 3 had (by omega) W h
        have q3 := fun W h => mget_any f l (by rw [← HL.out]; omega) off 3 hoff (by omega) W h
        have q4 := fun W h => rget_any A n c l (by omega) hnc off 3 hoff (by omega) W h
        rw [← hV, ← hE1] at q1
        simp only [← hV, ← hE1] at q2
        simp only [← hG, ← hE2] at q3 q4
        have c0 : W5.cell? ⟨g, 0, none⟩ = some (.pointer (some ⟨p, 0, none⟩)) := (hg5.cell 0).trans rfl
        clear hnew hrg hB5 B4 hb4 hg4 hf4 hM4 hV hE1 hG hE2 hM5 hr40
        go_wp2_with fail
        refine Calls.mono q1 ?_
        rintro e W6 ⟨A4, c4, rfl, _, r4, hB6, _⟩
        have B6 := B5.trans (hB6.mono B5.size)
        have hb6 := hb5.below hB6 hb5.lt
        have hg6 := hg5.below hB6 hg5.lt
        have hf6 := hf5.below hB6
        have q22 := q2 W6 (hRM.below hB6 (Nat.le_refl _))
        clear q1 q2 hB6 B5 hb5 hg5 hf5 hRM c0
        go_wp2_with fail
        refine Calls.mono q22 ?_
        rintro e W7 ⟨A5, c5, rfl, _, r5, hB7⟩
        have B7 := B6.trans (hB7.mono B6.size)
        have hb7 := hb6.below hB7 hb6.lt
        have hg7 := hg6.below hB7 hg6.lt
        have r47 := (r4.below hB7).more hB7.size
        have q33 := q3 W7 (hf6.below hB7)
        have c1 : W7.cell? ⟨g, 1, none⟩ = some (.pointer (some ⟨f, 0, none⟩)) := (hg7.cell 1).trans rfl
        clear q22 q3 hB7 B6 hb6 hg6 hf6 r4
        go_wp2_with fail
        refine Calls.mono q33 ?_
        rintro e W8 ⟨A6, c6, rfl, _, r6, hB8⟩
        have B8 := B7.trans (hB8.mono B7.size)
        have hb8 := hb7.below hB8 hb7.lt
        have hg8 := hg7.below hB8 hg7.lt
        have r48 := (r47.below hB8).more hB8.size
        have r58 := (r5.below hB8).more hB8.size
        have q44 := q4 W8 ((hR.below B8).more B8.size)
        clear q33 q4 hB8 B7 hb7 hg7 r47 r5 c1
        go_wp2_with fail
        refine Calls.mono q44 ?_
        rintro e W9 ⟨A7, c7, rfl, _, r7, hB9⟩
        have B9 := B8.trans (hB9.mono B8.size)
        have hb9 := hb8.below hB9 hb8.lt
        have hg9 := hg8.below hB9 hg8.lt
        have r49 := (r48.below hB9).more hB9.size
        have r59 := (r58.below hB9).more hB9.size
        have r69 := (r6.below hB9).more hB9.size
        have hst : ∀ W, Below W9.heap.size W9.drew W → (convert 26 9 (.slice A4 V.length c4)).run Try.prog W = .ok (.string ⟨V.toArray⟩) W ∧ (convert 26 9 (.slice A5 V.length c5)).run Try.prog W = .ok (.string ⟨V.toArray⟩) W ∧
            (convert 26 9 (.slice A6 G.length c6)).run Try.prog W = .ok (.string ⟨G.toArray⟩) W ∧ (convert 26 9 (.slice A7 G.length c7)).run Try.prog W = .ok (.string ⟨G.toArray⟩) W := fun W hB8 =>
          ⟨run_str W 26 9 5 A4 V.length c4 V Try.underlying26 Try.underlying5 Try.underlying9 (r49.drew.below hB8), run_str W 26 9 5 A5 V.length c5 V Try.underlying26 Try.underlying5 Try.underlying9 (r59.drew.below hB8),
           run_str W 26 9 5 A6 G.length c6 G Try.underlying26 Try.underlying5 Try.underlying9 (r69.drew.below hB8), run_str W 26 9 5 A7 G.length c7 G Try.underlying26 Try.underlying5 Try.underlying9 (r7.drew.below hB8)⟩
        have hbd := bdEq b ok
        clear q44 hB9 B8 hb8 hg8 r48 r58 r6 r49 r59 r69 r7 hJ hR
        go_wp2_with fail
        refine Flow.wp_region_flow (W9.heap.size) [] [] (by kernel_rfl) (by kernel_rfl) (Nat.le_refl _) (fun _ h => by cases h) Flow.facts_nil ?_
        refine Flow.pass_old (X := .int .i64 0) 12 (Flow.met_none rfl) (.inl rfl) (by kernel_rfl) (by kernel_rfl) rfl ?_
        refine Flow.pass_val (.bool true) (Flow.met_none rfl) (fun a W hH => ?_) ?_
        · have e0 := Flow.see_new 105 0 hH.sees (by kernel_rfl) (by kernel_rfl) rfl rfl
          go_simp; first | done | rfl | (simp; done)
        refine Flow.pass_copy 106 1 (Flow.met_none rfl) (.inl rfl) (by kernel_rfl) (by kernel_rfl) rfl rfl (fun _ _ => Flow.kept_eqs _ _) ?_
        refine Flow.pass_old (X := .int .i64 E1) 17 (Flow.met_some 2 true 107 rfl rfl (by kernel_rfl) (by kernel_rfl) rfl rfl) (.inl rfl) (by kernel_rfl) (by kernel_rfl) rfl ?_
        refine Flow.pass_old (X := .int .i64 E1) 19 (Flow.met_some 2 true 107 rfl rfl (by kernel_rfl) (by kernel_rfl) rfl rfl) (.inl rfl) (by kernel_rfl) (by kernel_rfl) rfl ?_
        refine Flow.pass_val (.bool true) (Flow.met_some 2 true 107 rfl rfl (by kernel_rfl) (by kernel_rfl) rfl rfl) (fun a W hH => ?_) ?_
        · have e0 := Flow.see_new 108 3 hH.sees (by kernel_rfl) (by kernel_rfl) rfl rfl
          have e1 := Flow.see_new 109 4 hH.sees (by kernel_rfl) (by kernel_rfl) rfl rfl
          go_simp; first | done | rfl | (simp; done)
        refine Flow.pass_val (.bool true) (Flow.met_none rfl) (fun a W hH => ?_) ?_
        · have e0 := Flow.see_new 107 2 hH.sees (by kernel_rfl) (by kernel_rfl) rfl rfl
          have e1 := Flow.see_new 110 5 hH.sees (by kernel_rfl) (by kernel_rfl) rfl rfl
          go_simp; first | done | rfl | (simp; done)
        refine Flow.pass_copy 111 6 (Flow.met_none rfl) (.inl rfl) (by kernel_rfl) (by kernel_rfl) rfl rfl (fun _ _ => Flow.kept_eqs _ _) ?_
        refine Flow.pass_old (X := .slice A4 V.length c4) 16 (Flow.met_some 7 true 112 rfl rfl (by kernel_rfl) (by kernel_rfl) rfl rfl) (.inl rfl) (by kernel_rfl) (by kernel_rfl) rfl ?_
        refine Flow.pass_val (.string ⟨V.toArray⟩) (Flow.met_some 7 true 112 rfl rfl (by kernel_rfl) (by kernel_rfl) rfl rfl) (fun a W hH => ?_) ?_
        · have e0 := Flow.see_new 113 8 hH.sees (by kernel_rfl) (by kernel_rfl) rfl rfl
          have s := (hst W hH.below).1; go_simp; first | done | rfl
        refine Flow.pass_old (X := .slice A5 V.length c5) 18 (Flow.met_some 7 true 112 rfl rfl (by kernel_rfl) (by kernel_rfl) rfl rfl) (.inl rfl) (by kernel_rfl) (by kernel_rfl) rfl ?_
        refine Flow.pass_val (.string ⟨V.toArray⟩) (Flow.met_some 7 true 112 rfl rfl (by kernel_rfl) (by kernel_rfl) rfl rfl) (fun a W hH => ?_) ?_
        · have e0 := Flow.see_new 115 10 hH.sees (by kernel_rfl) (by kernel_rfl) rfl rfl
          have s := (hst W hH.below).2.1; go_simp; first | done | rfl
        refine Flow.pass_val (.bool true) (Flow.met_some 7 true 112 rfl rfl (by kernel_rfl) (by kernel_rfl) rfl rfl) (fun a W hH => ?_) ?_
        · have e0 := Flow.see_new 114 9 hH.sees (by kernel_rfl) (by kernel_rfl) rfl rfl
          have e1 := Flow.see_new 116 11 hH.sees (by kernel_rfl) (by kernel_rfl) rfl rfl
          go_simp; first | done | rfl | (simp; done)
        refine Flow.pass_val (.bool true) (Flow.met_none rfl) (fun a W hH => ?_) ?_
        · have e0 := Flow.see_new 112 7 hH.sees (by kernel_rfl) (by kernel_rfl) rfl rfl
          have e1 := Flow.see_new 117 12 hH.sees (by kernel_rfl) (by kernel_rfl) rfl rfl
          go_simp; first | done | rfl | (simp; done)
        refine Flow.pass_copy 118 13 (Flow.met_none rfl) (.inl rfl) (by kernel_rfl) (by kernel_rfl) rfl rfl (fun _ _ => Flow.kept_eqs _ _) ?_
        refine Flow.pass_old (X := .int .i64 E2) 21 (Flow.met_some 14 true 119 rfl rfl (by kernel_rfl) (by kernel_rfl) rfl rfl) (.inl rfl) (by kernel_rfl) (by kernel_rfl) rfl ?_
        refine Flow.pass_old (X := .int .i64 E2) 23 (Flow.met_some 14 true 119 rfl rfl (by kernel_rfl) (by kernel_rfl) rfl rfl) (.inl rfl) (by kernel_rfl) (by kernel_rfl) rfl ?_
        refine Flow.pass_val (.bool true) (Flow.met_some 14 true 119 rfl rfl (by kernel_rfl) (by kernel_rfl) rfl rfl) (fun a W hH => ?_) ?_
        · have e0 := Flow.see_new 120 15 hH.sees (by kernel_rfl) (by kernel_rfl) rfl rfl
          have e1 := Flow.see_new 121 16 hH.sees (by kernel_rfl) (by kernel_rfl) rfl rfl
          go_simp; first | done | rfl | (simp; done)
        refine Flow.pass_val (.bool true) (Flow.met_none rfl) (fun a W hH => ?_) ?_
        · have e0 := Flow.see_new 119 14 hH.sees (by kernel_rfl) (by kernel_rfl) rfl rfl
          have e1 := Flow.see_new 122 17 hH.sees (by kernel_rfl) (by kernel_rfl) rfl rfl
          go_simp; first | done | rfl | (simp; done)
        refine Flow.pass_copy 123 18 (Flow.met_none rfl) (.inl rfl) (by kernel_rfl) (by kernel_rfl) rfl rfl (fun _ _ => Flow.kept_eqs _ _) ?_
        refine Flow.pass_old (X := .slice A6 G.length c6) 20 (Flow.met_some 19 true 124 rfl rfl (by kernel_rfl) (by kernel_rfl) rfl rfl) (.inl rfl) (by kernel_rfl) (by kernel_rfl) rfl ?_
        refine Flow.pass_val (.string ⟨G.toArray⟩) (Flow.met_some 19 true 124 rfl rfl (by kernel_rfl) (by kernel_rfl) rfl rfl) (fun a W hH => ?_) ?_
        · have e0 := Flow.see_new 125 20 hH.sees (by kernel_rfl) (by kernel_rfl) rfl rfl
          have s := (hst W hH.below).2.2.1; go_simp; first | done | rfl
        refine Flow.pass_old (X := .slice A7 G.length c7) 22 (Flow.met_some 19 true 124 rfl rfl (by kernel_rfl) (by kernel_rfl) rfl rfl) (.inl rfl) (by kernel_rfl) (by kernel_rfl) rfl ?_
        refine Flow.pass_val (.string ⟨G.toArray⟩) (Flow.met_some 19 true 124 rfl rfl (by kernel_rfl) (by kernel_rfl) rfl rfl) (fun a W hH => ?_) ?_
        · have e0 := Flow.see_new 127 22 hH.sees (by kernel_rfl) (by kernel_rfl) rfl rfl
          have s := (hst W hH.below).2.2.2; go_simp; first | done | rfl
        refine Flow.pass_val (.bool true) (Flow.met_some 19 true 124 rfl rfl (by kernel_rfl) (by kernel_rfl) rfl rfl) (fun a W hH => ?_) ?_
        · have e0 := Flow.see_new 126 21 hH.sees (by kernel_rfl) (by kernel_rfl) rfl rfl
          have e1 := Flow.see_new 128 23 hH.sees (by kernel_rfl) (by kernel_rfl) rfl rfl
          go_simp; first | done | rfl | (simp; done)
        refine Flow.pass_val (.bool true) (Flow.met_none rfl) (fun a W hH => ?_) ?_
        · have e0 := Flow.see_new 124 19 hH.sees (by kernel_rfl) (by kernel_rfl) rfl rfl
          have e1 := Flow.see_new 129 24 hH.sees (by kernel_rfl) (by kernel_rfl) rfl rfl
          go_simp; first | done | rfl | (simp; done)
        refine Flow.pass_copy 130 25 (Flow.met_none rfl) (.inl rfl) (by kernel_rfl) (by kernel_rfl) rfl rfl (fun _ _ => Flow.kept_eqs _ _) ?_
        refine Flow.pass_old (X := .pointer (some ⟨g, 0, none⟩)) 11 (Flow.met_some 26 true 131 rfl rfl (by kernel_rfl) (by kernel_rfl) rfl rfl) (.inl rfl) (by kernel_rfl) (by kernel_rfl) rfl ?_
        refine Flow.pass_val (.pointer (some ⟨g, 0, none⟩)) (Flow.met_some 26 true 131 rfl rfl (by kernel_rfl) (by kernel_rfl) rfl rfl) (fun a W hH => ?_) ?_
        · have e0 := Flow.see_new 132 27 hH.sees (by kernel_rfl) (by kernel_rfl) rfl rfl
          go_simp; first | done | rfl
        refine Flow.pass_val (.pointer (some ⟨g, 2, none⟩)) (Flow.met_some 26 true 131 rfl rfl (by kernel_rfl) (by kernel_rfl) rfl rfl) (fun a W hH => ?_) ?_
        · have e0 := Flow.see_new 133 28 hH.sees (by kernel_rfl) (by kernel_rfl) rfl rfl
          go_simp; first | done | rfl
        refine Flow.pass_val (.agg b.cells) (Flow.met_some 26 true 131 rfl rfl (by kernel_rfl) (by kernel_rfl) rfl rfl) (fun a W hH => ?_) ?_
        · have e0 := Flow.see_new 134 29 hH.sees (by kernel_rfl) (by kernel_rfl) rfl rfl
          exact reg_loadRangeM 39 _ rfl e0 (mc_board (hg9.drew.below hH.below hg9.lt)) Try.underlying39 rfl inf_bd
        refine Flow.pass_val (.agg b.cells) (Flow.met_some 26 true 131 rfl rfl (by kernel_rfl) (by kernel_rfl) rfl rfl) (fun a W hH => ?_) ?_
        · have e0 := Flow.see_old 5 hH.sees (by kernel_rfl) (by kernel_rfl) rfl
          exact reg_load 39 _ rfl e0 (hb9.drew.below hH.below hb9.lt) Try.underlying39 rfl inf_bd
        refine Flow.pass_val (.bool true) (Flow.met_some 26 true 131 rfl rfl (by kernel_rfl) (by kernel_rfl) rfl rfl) (fun a W hH => ?_) ?_
        · have e0 := Flow.see_new 135 30 hH.sees (by kernel_rfl) (by kernel_rfl) rfl rfl
          have e1 := Flow.see_new 136 31 hH.sees (by kernel_rfl) (by kernel_rfl) rfl rfl
          exact reg_eqlB (r := true) rfl (by simp [Act.eval, e0]) (by simp [Act.eval, e1]) bdGuard (hbd W)
        refine Flow.pass_val (.bool true) (Flow.met_none rfl) (fun a W hH => ?_) ?_
        · have e0 := Flow.see_new 131 26 hH.sees (by kernel_rfl) (by kernel_rfl) rfl rfl
          have e1 := Flow.see_new 137 32 hH.sees (by kernel_rfl) (by kernel_rfl) rfl rfl
          go_simp; first | done | rfl | (simp; done)
        refine Flow.pass_copy 138 33 (Flow.met_none rfl) (.inr rfl) (by kernel_rfl) (by kernel_rfl) rfl rfl (fun _ _ => Flow.kept_eqs _ _) ?_
        refine Flow.pass_end [none, none, none, none, none, none, none, none, none, none, some 10, none, none, none, none, none, none, none, none, none, none, none, none, none, none, none, none, none, none, none, none, none, none, none, none, none, none, none, none, none, none, none, none, none, none, none, none, none, none, none, none, none, none, none, none, none, none, none, none, none, none, none, none, none, none, none, none, none, none, none, none, none, none, none, none, none, none, none, none, none, none, none, none, none, none, none, none, none, none, none, none, none, none, none, none, none, none, none, none, none, none, none, none, none, none, some 105, some 106, some 107, some 108, some 109, some 110, some 111, some 112, some 113, some 114, some 115, some 116, some 117, some 118, some 119, some 120, some 121, some 122, some 123, some 124, some 125, some 126, some 127, some 128, some 129, some 130, some 131, some 132, some 133, some 134, some 135, some 136, some 137, some 138] (by kernel_rfl) ?_
        intro f gg w9 hB hfa hT hfg
        have h10 : f 10 = _ := (hfg 10 34 (by kernel_rfl)).trans (hT 34 _ (by kernel_rfl) rfl)
        simp only [Reg.sel, h10]
        have B10 := B9.drew.trans (hB.mono B9.size)
        clear hT hfg hfa
        go_wp2
        go_ret
        exact ⟨rfl, B10⟩
end Go.Proofs.Ytjfmgoickokbjaa
