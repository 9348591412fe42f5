/-
  Walk: the law MachDoes.
-/
import Derived.Test.YtjfmgoickokbjaaDoB
namespace Go.Proofs.Ytjfmgoickokbjaa
open Go.RowKit

theorem rpNe (p : Nat) (w : World) : (binOp .eql 60 (.pointer (some ⟨p, 0, none⟩)) (.pointer none)).run Try.prog w = .ok (.bool false) w := by kernel_rfl
theorem rpNil (w : World) : (binOp .eql 60 (.pointer none) (.pointer none)).run Try.prog w = .ok (.bool true) w := by kernel_rfl
theorem few_both {L : List Dd} {J : List Ck} (h : fewV L J = true) : (L.length ≤ 40 ∧ ∀ d ∈ L, d.n ≤ 5000) ∧ J.length ≤ 10 ∧ ∀ k ∈ J, k.n ≤ 5000 := by
  simp only [fewV, Bool.and_eq_true, decide_eq_true_eq, List.all_eq_true] at h
  exact ⟨⟨h.1.1.1, fun d hd => by have := h.1.2 d hd; simp only [ddFew, decide_eq_true_eq] at this; omega⟩, h.1.1.2, fun k hk => by have := h.2 k hk; simpa [ckFew] using this⟩

set_option maxRecDepth 100000 in
set_option maxHeartbeats 4000000 in
theorem machDoes_walk (w : World) (ram : Sp) (okr : ram.ok) (A0 : Option Addr) (n0 c0 : Nat) (J : List Ck) (hJ : Rd w w.heap.size 2 A0 n0 (ccells J)) (hJo : ∀ k ∈ J, k.ok w w.heap.size)
    (A : Option Addr) (n c : Nat) (L : List Dd) (hL : Rd w w.heap.size 4 A n (dcells L)) (hLo : ∀ d ∈ L, d.ok w w.heap.size) :
    Calls Try.prog 8 #[.agg ram.cells, .slice A0 n0 c0, .slice A n c] w fun e w' => e = .returned (.bool true) ∧ Below w.heap.size w w' := by
  have hLn : n = L.length := by have := hL.len; rw [dcells_length] at this; omega
  have hJn : n0 = J.length := by have := hJ.len; rw [ccells_length] at this; omega
  have HLN := Lib.hid hLn
  have HJN := Lib.hid hJn
  have HJO := Lib.hid hJo
  have HLO := Lib.hid hLo
  have hb := Blk.new w 24 ram.cells
  have B0 : Below w.heap.size w (w.alloc (.cells ram.cells 24)) := (Below.refl _ _).alloc (Nat.le_refl _) _
  clear hLn hJn hJo hLo
  go_enter Try.func8, Try.ntmps8
  go_wp2_with fail
  generalize w.alloc (.cells ram.cells 24) = W0 at *
  refine (awake09 W0).mono ?_
  rintro e W1 ⟨rfl, hB1⟩
  have hb1 := hb.below hB1 hb.lt
  have B1 := B0.trans (hB1.mono B0.size)
  clear hb B0 hB1
  go_wp2_with fail
  have hfew := few_any A n c L A0 n0 c0 J W1 ((hL.below B1).more B1.size) ((hJ.below B1).more B1.size) (fun d hd => ⟨(HLO.out d hd).kind, (HLO.out d hd).at_, (HLO.out d hd).num, (HLO.out d hd).cap, ((HLO.out d hd).rd.below B1).more B1.size⟩) (fun k hk => ⟨(HJO.out k hk).at_, (HJO.out k hk).cap, ((HJO.out k hk).rd.below B1).more B1.size⟩)
  obtain ⟨fw, hfw⟩ : ∃ q, q = fewV L J := ⟨_, rfl⟩
  rw [← hfw] at hfew
  refine Calls.mono hfew ?_
  rintro e W2 ⟨rfl, hB2⟩
  have hb2 := hb1.below hB2 hb1.lt
  have B2 := B1.trans (hB2.mono B1.size)
  clear hfew hb1 B1 hB2
  cases fw with
  | false =>
    clear hfw
    go_wp2
    go_ret
    exact ⟨rfl, B2⟩
  | true =>
    obtain ⟨⟨hL40, hL5⟩, hJ10, hJ5⟩ := few_both hfw.symm
    have HJ5 := Lib.hid hJ5
    have HL5 := Lib.hid hL5
    have hn10 : n0 ≤ 10 := by rw [HJN.out]; exact hJ10
    have hn40 : n ≤ 40 := by rw [HLN.out]; exact hL40
    clear hfw hJ10 hJ5 hL40 hL5
    have hnew := mnew_any ram okr A0 n0 c0 J (fun k hk => by rw [← (HJO.out k hk).len]; exact HJ5.out k hk) hn10 W2 ((hJ.below B2).more B2.size) (fun k hk => ⟨(HJO.out k hk).at_, (HJO.out k hk).cap, ((HJO.out k hk).rd.below B2).more B2.size⟩)
    have hrnew := fun W (B : Below w.heap.size w W) => rnew_any ram okr A0 n0 c0 J (fun k hk => by rw [← (HJO.out k hk).len]; exact HJ5.out k hk) hn10 W ((hJ.below B).more B.size) (fun k hk => ⟨(HJO.out k hk).at_, (HJO.out k hk).cap, ((HJO.out k hk).rd.below B).more B.size⟩)
    obtain ⟨E, hE⟩ : ∃ E, E = newErr ram J := ⟨_, rfl⟩
    obtain ⟨M, hM0⟩ : ∃ M, M = newM ram J := ⟨_, rfl⟩
    unfold NewRet at hnew
    unfold RNewRet at hrnew
    rw [← hE, ← hM0] at hnew
    simp only [← hE, ← hM0] at hrnew
    have HE := Lib.hid hE
    clear hM0 hE
    go_wp2_with ((with_reducible refine at_load 24 ?_); refine wpList_loadAllW _ rfl 24 _ rfl w.heap.size 24 ram.cells hb2 _ rfl Try.underlying24 rfl infSpan ?_)
    refine Calls.mono hnew ?_
    rintro e W3 ⟨hB3, ⟨h0, rfl⟩ | ⟨h0, p, F, rfl, hM, hF⟩⟩
    · have B3 := B2.trans (hB3.mono B2.size)
      have hb3 := hb2.below hB3 hb2.lt
      have hr := hrnew W3 B3
      have H0 := Lib.hid h0
      clear hnew hrnew hB3 B2 hb2 h0
      go_wp2_with ((with_reducible refine at_load 24 ?_); refine wpList_loadAllW _ rfl 24 _ rfl w.heap.size 24 ram.cells hb3 _ rfl Try.underlying24 rfl infSpan ?_)
      refine Calls.mono hr ?_
      rintro e W4 ⟨hB4, ⟨_, rfl⟩ | ⟨h1, _⟩⟩
      · have B4 := B3.trans (hB4.mono B3.size)
        have hpn := ptrNil
        have hrn := rpNil
        clear hr hB4 B3 hb3
        go_wp2
        go_ret
        exact ⟨rfl, B4⟩
      · exact absurd h1 H0.out
    · subst h0
      have hr40 := ramOk_40 (newErr_ram HE.out.symm)
      have B3 := B2.trans (hB3.mono B2.size)
      have hb3 := hb2.below hB3 hb2.lt
      have hr := hrnew W3 B3
      have hFw : ∀ b, F b → w.heap.size ≤ b := fun b hb => Nat.le_trans B2.size (hF b hb)
      clear hnew hrnew hB3 B2 hb2 hF
      go_wp2_with ((with_reducible refine at_load 24 ?_); refine wpList_loadAllW _ rfl 24 _ rfl w.heap.size 24 ram.cells hb3 _ rfl Try.underlying24 rfl infSpan ?_)
      refine Calls.mono hr ?_
      rintro e W4 ⟨hB4, ⟨h1, _⟩ | ⟨_, r, G, rfl, hRM, hG⟩⟩
      · exact absurd rfl h1
      have B4 := B3.trans (hB4.mono B3.size)
      have hGw : ∀ b, G b → w.heap.size ≤ b := fun b hb => Nat.le_trans B3.size (hG b hb)
      have hT4 : Two W4 p r ram M F G (n0 * 5000) := ⟨hM.below hB4 (Nat.le_refl _), hRM, fun b hb hg => by have := hM.flt b hb; have := hG b hg; omega⟩
      have hpn := ptrNe p
      have hrn := rpNe r
      have hz1 := zeroDd
      clear hr hB4 B3 hb3 hM hRM hG HE HJO HJ5
      go_wp2
      go_loopw [57] (fun v wr => ∃ i : Nat, i ≤ n ∧ v = .int .i64 (i : Int) ∧ Below w.heap.size w wr ∧ ∃ M2 F2 G2, Two wr p r ram M2 F2 G2 (n0 * 5000 + i * 5000) ∧ (∀ b, F2 b → w.heap.size ≤ b) ∧ ∀ b, G2 b → w.heap.size ≤ b) (fun v _ => n - (intOf v).toNat)
      case atStart => exact ⟨0, Nat.zero_le _, rfl, B4, M, F, G, hT4.more (by omega), hFw, hGw⟩
      case round =>
        clear hT4 hFw hGw B4
        obtain ⟨i, hi, rfl, hB, M2, F2, G2, hT, hFw, hGw⟩ := hrel
        by_cases hlt : i < n
        · obtain ⟨d, hd⟩ : ∃ d, L[i]? = some d := ⟨_, List.getElem?_eq_getElem (by rw [← HLN.out]; exact hlt)⟩
          have hdm := List.mem_of_getElem? hd
          have hdo := HLO.out d hdm
          obtain ⟨ba, bo, rfl, _, _⟩ := hL.range (by omega)
          have hrng := rd_deed (hL.below hB) i d hd
          have hdz := Blk.new wr 69 #[.int .i64 0, .int .u64 0, .int .u64 0, .slice none 0 0]
          clear hd
          go_wp2_with (first
            | ((with_reducible refine at_load 69 ?_); first | (refine wpList_load_mid rfl 69 _ rfl ba (bo + i * 4) rfl d.cells _ hrng Try.underlying69 rfl infDd ?_) | (refine wpList_loadAll _ rfl 69 _ rfl wr.heap.size 69 d.cells.toArray hb3 _ rfl Try.underlying69 rfl infDd ?_))
            | ((with_reducible refine at_store 69 ?_); refine wpList_storeAll _ rfl 69 _ _ rfl wr.heap.size 69 _ d.cells.toArray hdz rfl rfl rfl infDd (dd_one d) ?_; intro w3 hb3 hg3 hs3; have B5 := grown_below (hB.alloc hB.size (.cells #[.int .i64 0, .int .u64 0, .int .u64 0, .slice none 0 0] 69)) hg3 (by simp; have := hB.size; omega) hB.size; have B6 : Below wr.heap.size wr w3 := grown_below ((Below.refl _ _).alloc (Nat.le_refl _) (.cells #[.int .i64 0, .int .u64 0, .int .u64 0, .slice none 0 0] 69)) hg3 (by simp) (Nat.le_refl _)))
          have hT6 := hT.below B6 (Nat.le_refl _)
          refine Calls.mono (do_any p r ram okr hr40 M2 F2 G2 (n0 * 5000 + i * 5000) (by omega) w.heap.size d w3 ⟨hdo.kind, hdo.at_, hdo.num, hdo.cap, hdo.rd.below B5⟩ (HL5.out d hdm) B5.size hFw hGw hT6) ?_
          rintro e w4 ⟨rfl, F3, G3, hT3, hC, hF3, hG3⟩
          have B7 := B5.trans (hC.below (fun b hb => hb.elim (hFw b) (hGw b)) B5.size)
          have hF4 : ∀ b, F3 b → w.heap.size ≤ b := fun b hb => (hF3 b hb).elim (hFw b) (Nat.le_trans B5.size)
          have hG4 : ∀ b, G3 b → w.heap.size ≤ b := fun b hb => (hG3 b hb).elim (hGw b) (Nat.le_trans B5.size)
          clear hb3 hg3 hdz hrng hT6 hT hC hF3 hG3 hFw hGw
          go_wp2
          go_roundw
          case rel => exact ⟨i + 1, by omega, by go_num, B7, _, F3, G3, hT3.more (by omega), hF4, hG4⟩
          case measure => simp [intOf]; omega
        · obtain rfl : i = n := by omega
          have q1 := touched_any p ram M2 F2 (n0 * 5000 + i * 5000) (by omega) wr hT.pm
          have q2 := fun W h => rtouched_any r ram M2 G2 (n0 * 5000 + i * 5000) (by omega) W h
          clear hL
          go_wp2_with fail
          refine Calls.mono q1 ?_
          rintro e W6 ⟨ys, A6, c6, hy, hy6, rfl, r6, hB6⟩
          have q3 := q2 W6 (hT.rm.below hB6 (Nat.le_refl _))
          have B6 := hB.trans (hB6.mono hB.size)
          have HY := Lib.hid hy
          clear q1 q2 hB6 hB hT hy
          go_wp2_with fail
          refine Calls.mono q3 ?_
          rintro e W7 ⟨zs, A7, c7, hz, hz6, rfl, r7, hB7⟩
          have B7 := B6.trans (hB7.mono B6.size)
          have r67 := (r6.below hB7).more hB7.size
          obtain rfl := HY.out.one hz
          have q4 := sameAddr_any A6 A7 c6 c7 ys ys.length rfl hy6 W7 r67 r7
          clear q3 B6 hB7 r6 hz
          go_wp2_with fail
          refine Calls.mono q4 ?_
          rintro e W8 ⟨rfl, hB8⟩
          clear q4
          go_wp2
          go_ret
          exact ⟨rfl, B7.trans (hB8.mono B7.size)⟩
end Go.Proofs.Ytjfmgoickokbjaa
