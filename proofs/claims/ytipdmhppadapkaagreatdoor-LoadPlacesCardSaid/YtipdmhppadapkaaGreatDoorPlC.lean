/-
  Walk: the law LoadPlaces.
-/
import Derived.Test.YtipdmhppadapkaaGreatDoorPlA
import Derived.Test.YtipdmhppadapkaaGreatDoorPlB
namespace Go.Proofs.YtipdmhppadapkaaGreatDoor
open Go.RowKit

theorem newErr_small {ram : Sp} {J : List Ck} (h : newErr ram J = 0) : ramOk ram = true := by
  unfold newErr at h
  split at h
  · assumption
  · cases h

set_option maxRecDepth 100000 in
set_option maxHeartbeats 4000000 in
theorem loadPlaces_walk (w : World) (ram : Sp) (okr : ram.ok) (A0 : Option Addr) (n0 c0 : Nat) (J : List Ck) (hJ : Rd w w.heap.size 2 A0 n0 (ccells J)) (hJo : ∀ k ∈ J, k.ok w w.heap.size) (v : Win) (okv : v.ok)
    (A : Option Addr) (n c : Nat) (l : List UInt8) (hR : Rd w w.heap.size 1 A n (bcells l)) (hnc : n ≤ c) (hc : c ≤ 9223372036854775807) (o : Int) (wo : (Lit.int .u64 o).wf = true) :
    Calls Tryz.prog 6 #[.agg ram.cells, .slice A0 n0 c0, .agg v.cells, .slice A n c, .int .u64 o] w fun e w' => e = .returned (.bool true) ∧ Below w.heap.size w w' := by
  obtain ⟨at_, hat, rfl⟩ := nat_u64 wo
  have hl : n = l.length := by have := hR.len; rw [bcells_length] at this; omega
  have hJn : n0 = J.length := by have := hJ.len; rw [ccells_length] at this; omega
  have HL := Lib.hid hl
  have HJN := Lib.hid hJn
  have HJO := Lib.hid hJo
  have hb := (Blk.new w 61 ram.cells).alloc (.cells v.cells 57)
  have hw := Blk.new (w.alloc (.cells ram.cells 61)) 57 v.cells
  rw [World.size_alloc] at hw
  have B0 : Below w.heap.size w ((w.alloc (.cells ram.cells 61)).alloc (.cells v.cells 57)) := ((Below.refl _ _).alloc (Nat.le_refl _) _).alloc (by simp) _
  clear wo hl hJn hJo
  go_enter Tryz.func6, Tryz.ntmps6
  go_wp2_with fail
  generalize (w.alloc (.cells ram.cells 61)).alloc (.cells v.cells 57) = W0 at *
  refine (awakeP W0).mono ?_
  rintro e W1 ⟨rfl, hB1⟩
  have hb1 := hb.below hB1 hb.lt
  have hw1 := hw.below hB1 hw.lt
  have B1 := B0.trans (hB1.mono B0.size)
  clear hb hw B0 hB1
  by_cases hfew : 10 < n0 ∨ 5000 < n
  · go_wp2
    all_goals first
      | (go_ret; exact ⟨rfl, B1⟩)
      | (exfalso; omega)
  have hn10 : n0 ≤ 10 := by omega
  have hn5 : n ≤ 5000 := by omega
  have hz2 := zeroCk
  clear hfew
  go_wp2
  go_loopw [35] (fun x wr => ∃ j : Nat, j ≤ n0 ∧ x = .int .i64 (j : Int) ∧ Below W1.heap.size W1 wr ∧ Hid (∀ d ∈ J.take j, d.n ≤ 5000)) (fun x _ => n0 - (intOf x).toNat)
  case atStart => exact ⟨0, Nat.zero_le _, rfl, Below.refl _ _, Lib.hid (by simp)⟩
  case round =>
    obtain ⟨j, hj, rfl, hB, hall⟩ := hrel
    have B2 := B1.trans (hB.mono B1.size)
    by_cases hlt : j < n0
    · obtain ⟨d, hd⟩ : ∃ d, J[j]? = some d := ⟨_, List.getElem?_eq_getElem (by rw [← HJN.out]; exact hlt)⟩
      obtain ⟨ba, bo, rfl, _, _⟩ := hJ.range (by omega)
      have hrng := rd_chunk (hJ.below B2) j d hd
      have hdz := Blk.new wr 64 #[.int .u64 0, .slice none 0 0]
      have HD := Lib.hid hd
      have hgood : Hid (d.n ≤ 5000 → ∀ x ∈ J.take (j + 1), x.n ≤ 5000) := Lib.hid (fun h x hx => by
        rw [List.take_add_one, HD.out] at hx
        simp only [Option.toList_some, List.mem_append, List.mem_singleton] at hx
        rcases hx with hx | rfl
        · exact hall.out x hx
        · exact h)
      clear hd hb1 hw1
      go_wp2_with (first
        | ((with_reducible refine at_load 64 ?_); refine wpList_load_mid rfl 64 _ rfl ba (bo + j * 2) rfl d.cells _ hrng Tryz.underlying64 rfl infCk ?_)
        | ((with_reducible refine at_store 64 ?_); refine wpList_storeAll _ rfl 64 _ _ rfl wr.heap.size 64 _ d.cells.toArray hdz rfl rfl rfl infCk (ck_one d) ?_; intro w3 hb3 hg3 hs3; have cc1 : w3.cell? ⟨wr.heap.size, 1, none⟩ = some (.slice d.A d.n d.c) := (hb3.cell 1).trans rfl; have B3 := grown_below (hB.alloc hB.size (.cells #[.int .u64 0, .slice none 0 0] 64)) hg3 (by simp; have := hB.size; omega) hB.size))
      all_goals first
        | (go_ret; exact ⟨rfl, B1.trans (B3.mono B1.size)⟩)
        | (go_roundw; (case rel => exact ⟨j + 1, by omega, by go_num, B3, Lib.hid (hgood.out (by omega))⟩); (case measure => simp [intOf]; omega))
    · obtain rfl : j = n0 := by omega
      have HJ5 : Hid (∀ k ∈ J, k.n ≤ 5000) := Lib.hid (fun k hk => hall.out k (by rw [List.take_of_length_le (by rw [HJN.out]; exact Nat.le_refl _)]; exact hk))
      have hb2 := hb1.below hB hb1.lt
      have hw2 := hw1.below hB hw1.lt
      have hnew := mnew_any ram okr A0 j c0 J (fun k hk => by rw [← (HJO.out k hk).len]; exact HJ5.out k hk) hn10 wr ((hJ.below B2).more B2.size) (fun k hk => ⟨(HJO.out k hk).at_, (HJO.out k hk).cap, ((HJO.out k hk).rd.below B2).more B2.size⟩)
      have hrnew := fun W (B : Below w.heap.size w W) => rnew_any ram okr A0 j c0 J (fun k hk => by rw [← (HJO.out k hk).len]; exact HJ5.out k hk) hn10 W ((hJ.below B).more B.size) (fun k hk => ⟨(HJO.out k hk).at_, (HJO.out k hk).cap, ((HJO.out k hk).rd.below B).more B.size⟩)
      obtain ⟨E, hE⟩ : ∃ E, E = newErr ram J := ⟨_, rfl⟩
      obtain ⟨M, hM0⟩ : ∃ M, M = newM ram J := ⟨_, rfl⟩
      unfold NewRet at hnew
      unfold RNewRet at hrnew
      rw [← hE, ← hM0] at hnew
      simp only [← hE, ← hM0] at hrnew
      have HE := Lib.hid hE
      clear hM0 hE hall hb1 hw1 hB B1 hz2
      go_wp2_with ((with_reducible refine at_load 61 ?_); refine wpList_loadAllW _ rfl 61 _ rfl w.heap.size 61 ram.cells hb2 _ rfl Tryz.underlying61 rfl infSpan ?_)
      refine Calls.mono hnew ?_
      rintro e W3 ⟨hB3, ⟨h0, rfl⟩ | ⟨h0, p, F, rfl, hM, hF⟩⟩
      · have B3 := B2.trans (hB3.mono B2.size)
        have hb3 := hb2.below hB3 hb2.lt
        have hr := hrnew W3 B3
        have H0 := Lib.hid h0
        have hne : (E != 0) = true := by simpa using h0
        clear hnew hrnew hB3 B2 hb2 hw2 h0
        go_wp2_with ((with_reducible refine at_load 61 ?_); refine wpList_loadAllW _ rfl 61 _ rfl w.heap.size 61 ram.cells hb3 _ rfl Tryz.underlying61 rfl infSpan ?_)
        refine Calls.mono hr ?_
        rintro e W4 ⟨hB4, ⟨_, rfl⟩ | ⟨h1, _⟩⟩
        · have B4 := B3.trans (hB4.mono B3.size)
          clear hr hB4 B3 hb3
          go_wp2
          go_ret
          exact ⟨rfl, B4⟩
        · exact absurd h1 H0.out
      · subst h0
        have hr40 := ramOk_40 (newErr_small HE.out.symm)
        have B3 := B2.trans (hB3.mono B2.size)
        have hb3 := hb2.below hB3 hb2.lt
        have hw3 := hw2.below hB3 hw2.lt
        have hr := hrnew W3 B3
        have hFw : ∀ b, F b → wr.heap.size ≤ b := hF
        have hwlt : w.heap.size + 1 < wr.heap.size := hw2.lt
        have hB2s := B2.size
        clear hnew hrnew hB3 hb2 hw2 hF
        go_wp2_with ((with_reducible refine at_load 61 ?_); refine wpList_loadAllW _ rfl 61 _ rfl w.heap.size 61 ram.cells hb3 _ rfl Tryz.underlying61 rfl infSpan ?_)
        refine Calls.mono hr ?_
        rintro e W4 ⟨hB4, ⟨h1, _⟩ | ⟨_, r, G, rfl, hRM, hG⟩⟩
        · exact absurd rfl h1
        have B4 := B3.trans (hB4.mono B3.size)
        have hw4 := hw3.below hB4 hw3.lt
        have hGw : ∀ b, G b → w.heap.size + 1 < b := fun b hb => by have := hG b hb; have := hw3.lt; omega
        have hT4 : Two W4 p r ram M F G (j * 5000) := ⟨hM.below hB4 (Nat.le_refl _), hRM, fun b hb hg => by have := hM.flt b hb; have := hG b hg; omega⟩
        have hwF : ¬ F (w.heap.size + 1) := fun h => by have := hFw _ h; omega
        have hwG : ¬ G (w.heap.size + 1) := fun h => by have := hGw _ h; omega
        have hFw2 : ∀ b, F b → w.heap.size ≤ b := fun b hb => by have := hFw b hb; omega
        have hGw2 : ∀ b, G b → w.heap.size ≤ b := fun b hb => by have := hGw b hb; omega
        have hfF : 0 < n → ∀ x, A = some x → ¬ F x.block := fun h0 y hy hF => by
          obtain ⟨b, off, e, h1, _⟩ := hR.range (by omega)
          rw [hy] at e; cases e
          have := hFw2 _ hF; simp only at this; omega
        have hfG : 0 < n → ∀ x, A = some x → ¬ G x.block := fun h0 y hy hF => by
          obtain ⟨b, off, e, h1, _⟩ := hR.range (by omega)
          rw [hy] at e; cases e
          have := hGw2 _ hF; simp only at this; omega
        obtain ⟨M2, hM2⟩ : ∃ M2, M2 = plM ram M v l := ⟨_, rfl⟩
        obtain ⟨E, hE⟩ : ∃ E, E = plErr ram v n := ⟨_, rfl⟩
        have q1 := mplace_any p ram okr hr40 M F (j * 5000) v okv A n c l HL.out hnc hc hn5 (by simp only [maxLen]; omega) W4 ((hR.below B4).more B4.size) hfF hT4.pm
        have q2 := fun W B h => rplace_any r ram okr hr40 M G (j * 5000) v okv A n c l HL.out hnc hc hn5 (by omega) W ((hR.below B).more B.size) hfG h
        rw [← hM2, ← hE] at q1
        rw [← hM2, ← hE] at q2
        have HM2 := Lib.hid hM2
        have HE2 := Lib.hid hE
        clear hr hB4 B3 hb3 hM hRM hG HE hM2 hE HJO HJ5 hGw hFw hwlt
        go_wp2_with ((with_reducible refine at_load 57 ?_); refine wpList_loadAllW _ rfl 57 _ rfl (w.heap.size + 1) 57 v.cells hw4 _ rfl Tryz.underlying57 rfl infWin ?_)
        refine Calls.mono q1 ?_
        rintro e W5 ⟨rfl, hA⟩
        obtain ⟨hRM5, F5, hM5, hd5, hC5, hF5⟩ := two_p hT4 hA
        have B5 := B4.trans (hC5.below (fun b hb => hFw2 b hb) B4.size)
        have hw5 := hw4.chg hC5 hwF
        have q3 := q2 W5 B5 hRM5
        clear q1 q2 hA
        go_wp2_with ((with_reducible refine at_load 57 ?_); refine wpList_loadAllW _ rfl 57 _ rfl (w.heap.size + 1) 57 v.cells hw5 _ rfl Tryz.underlying57 rfl infWin ?_)
        refine Calls.mono q3 ?_
        rintro e W6 ⟨rfl, hA⟩
        obtain ⟨F6, G6, hT6, hC6, _, _⟩ := two_r hM5 hd5 hC5 hF5 hA
        have B6 := B4.trans (hC6.below (fun b hb => hb.elim (hFw2 b) (hGw2 b)) B4.size)
        have hw6 := hw4.chg hC6 (fun h => h.elim hwF hwG)
        have q4 := touched_any p ram M2 F6 (j * 5000 + n) (by omega) W6 hT6.pm
        have q5 := fun W h => rtouched_any r ram M2 G6 (j * 5000 + n) (by omega) W h
        clear q3 hA hC6 hC5 hF5 hd5 hM5 hRM5 hw5 hw4 B5 B4 hT4 hwF hwG hfF hfG hFw2 hGw2
        go_wp2_with fail
        refine Calls.mono q4 ?_
        rintro e W7 ⟨ys, A7, c7, hy, hy6, rfl, r7, hB7⟩
        have hT7 := hT6.below hB7 (Nat.le_refl _)
        have hw7 := hw6.below hB7 hw6.lt
        have q6 := q5 W7 hT7.rm
        have B7 := B6.trans (hB7.mono B6.size)
        have HY := Lib.hid hy
        clear q4 q5 hB7 B6 hT6 hw6 hy
        go_wp2_with fail
        refine Calls.mono q6 ?_
        rintro e W8 ⟨zs, A8, c8, hz, hz6, rfl, r8, hB8⟩
        have B8 := B7.trans (hB8.mono B7.size)
        have hT8 := hT7.below hB8 (Nat.le_refl _)
        have hw8 := hw7.below hB8 hw7.lt
        have r78 := (r7.below hB8).more hB8.size
        obtain rfl := HY.out.one hz
        have q7 := sameAddr_any A7 A8 c7 c8 ys ys.length rfl hy6 W8 r78 r8
        clear q6 B7 hB8 r7 hz hT7 hw7
        go_wp2_with fail
        refine Calls.mono q7 ?_
        rintro e W9 ⟨rfl, hB9⟩
        have B9 := B8.trans (hB9.mono B8.size)
        have hT9 := hT8.below hB9 (Nat.le_refl _)
        have hw9 := hw8.below hB9 hw8.lt
        have q1 := mread_any p ram okr M2 F6 (j * 5000 + n) at_ 1 hat (by omega) W9 hT9.pm
        have q2 := fun W h => rread_any r ram okr hr40 M2 G6 (j * 5000 + n) (by omega) at_ 1 hat (by omega) W h
        obtain ⟨X, hX⟩ : ∃ X, X = readV ram M2 at_ 1 := ⟨_, rfl⟩
        obtain ⟨E3, hE3⟩ : ∃ X, X = askErr ram at_ 1 := ⟨_, rfl⟩
        rw [← hX, ← hE3] at q1
        simp only [← hX, ← hE3] at q2
        have HX := Lib.hid hX
        clear q7 r78 r8 hT8 hw8 B8 hB9 HY hX hE3
        go_wp2_with fail
        refine Calls.mono q1 ?_
        rintro e W10 ⟨A10, c10, rfl, _, r10, hB10, _⟩
        have B10 := B9.trans (hB10.mono B9.size)
        have hw10 := hw9.below hB10 hw9.lt
        have q3 := q2 W10 (hT9.rm.below hB10 (Nat.le_refl _))
        clear q1 q2 hT9 hw9 B9 hB10
        go_wp2_with fail
        refine Calls.mono q3 ?_
        rintro e W11 ⟨A11, c11, rfl, _, r11, hB11⟩
        have B11 := B10.trans (hB11.mono B10.size)
        have hw11 := hw10.below hB11 hw10.lt
        have r10' := (r10.below hB11).more hB11.size
        have s1 := run_str W11 22 9 5 A10 X.length c10 X Tryz.underlying22 Tryz.underlying5 Tryz.underlying9 r10'
        have s2 := run_str W11 22 9 5 A11 X.length c11 X Tryz.underlying22 Tryz.underlying5 Tryz.underlying9 r11
        have k1 : W11.cell? ⟨w.heap.size + 1, 1, none⟩ = some (.int .u64 (v.pa : Int)) := (hw11.cell 1).trans rfl
        have k2 : W11.cell? ⟨w.heap.size + 1, 2, none⟩ = some (.int .u64 (v.size : Int)) := (hw11.cell 2).trans rfl
        clear q3 r10 B10 hw10 hB11
        by_cases hE0 : E = 0
        · subst hE0
          by_cases h1 : at_ < v.pa
          · have h1' : (at_ : Int) < (v.pa : Int) := by omega
            go_wp2
            go_ret
            exact ⟨rfl, B11⟩
          · obtain ⟨d, rfl⟩ : ∃ d, at_ = v.pa + d := ⟨at_ - v.pa, by omega⟩
            have h1' : ¬ (((v.pa + d : Nat) : Int) < (v.pa : Int)) := by omega
            have hsub : ((v.pa + d : Nat) : Int) - (v.pa : Int) = (d : Int) := by omega
            have hd64 : d < 18446744073709551616 := by omega
            have hwd : IntKind.u64.wrap (d : Int) = (d : Int) := IntWalk.u64_in _ (by omega)
            by_cases h2 : v.size ≤ d
            · have h2' : (v.size : Int) ≤ (d : Int) := by omega
              go_wp2
              go_ret
              exact ⟨rfl, B11⟩
            · have h2' : ¬ (v.size : Int) ≤ (d : Int) := by omega
              have hXd := place_at (ram := ram) (m := M) (v := v) (l := l) (by rw [← HL.out, ← HE2.out]) d (by omega)
              rw [← HM2.out, ← HX.out] at hXd
              have hcv : IntKind.u64.wrap (n : Int) = (n : Int) := IntWalk.u64_in _ (by omega)
              obtain ⟨y, hy⟩ : ∃ y, y = l[d]?.getD 0 := ⟨_, rfl⟩
              rw [← hy] at hXd
              subst hXd
              simp only [List.length_cons, List.length_nil, Nat.zero_add] at s1 s2
              obtain ⟨b10, o10, rfl, hb10, hr10⟩ := r10'.range (by simp)
              have kx : W11.cell? ⟨b10, o10, none⟩ = some (.int .u8 (y.toNat : Int)) := hr10 0 _ (by simp [bcells])
              by_cases h3 : d < n
              · have h3' : (d : Int) < (n : Int) := by omega
                have hld : l[d]? = some y := by rw [hy, List.getElem?_eq_getElem (by rw [← HL.out]; exact h3)]; rfl
                obtain ⟨bp, op, rfl, hbp, hrp⟩ := (hR.below B11).range (by omega)
                have kp : W11.cell? ⟨bp, op + d, none⟩ = some (.int .u8 (y.toNat : Int)) := hrp d _ (by simp [bcells, hld])
                clear hy hld hrp hr10 hR hJ
                go_wp2
                go_ret
                exact ⟨rfl, B11⟩
              · have h3' : ¬ (d : Int) < (n : Int) := by omega
                have hy0 : y = 0 := by rw [hy, List.getElem?_eq_none (by rw [← HL.out]; omega)]; rfl
                subst hy0
                clear hy hr10 hR hJ
                go_wp2
                go_ret
                exact ⟨rfl, B11⟩
        · have hne : (E != 0) = true := by simpa using hE0
          clear hE0
          go_wp2
          go_ret
          exact ⟨rfl, B11⟩
end Go.Proofs.YtipdmhppadapkaaGreatDoor
