/-
  Walk: the law MachKeeps.
-/
import Derived.Test.YtjfmgoickokbjaaMaR
namespace Go.Proofs.Ytjfmgoickokbjaa
open Go.RowKit

theorem few_nil {J : List Ck} (h : fewV [] J = true) : J.length ≤ 10 ∧ ∀ k ∈ J, k.n ≤ 5000 := by
  simp only [fewV, Bool.and_eq_true, decide_eq_true_eq, List.all_eq_true] at h
  exact ⟨h.1.1.2, fun k hk => by have := h.2 k hk; simpa [ckFew] using this⟩
theorem newErr_ram {ram : Sp} {J : List Ck} (h : newErr ram J = 0) : ramOk ram = true := by
  unfold newErr at h
  split at h
  · assumption
  · cases h
theorem rd_far {w W : World} {A : Option Addr} {n : Nat} {l : List UInt8} (hR : Rd w w.heap.size 1 A n (bcells l)) {F : Nat → Prop} (hF : ∀ b, F b → w.heap.size ≤ b) (_hW : Below w.heap.size w W) : 0 < n → ∀ x, A = some x → ¬ F x.block := by
  intro h0 y hy hFy
  obtain ⟨b, off, e, h1, _⟩ := hR.range (by omega)
  rw [hy] at e
  cases e
  exact absurd (hF _ hFy) (Nat.not_le.2 h1)
theorem keep_same {ram : Sp} {M : Mm} {at_ other : Nat} {l : List UInt8} (hg : askErr ram at_ l.length = 0) (hin : (Sp.mk at_ l.length).has other = false) :
    readV ram (writeV ram M at_ l) other 1 = readV ram M other 1 := by
  unfold readV
  split
  · apply List.ext_getElem?
    intro i
    by_cases hi : i < 1
    · have : i = 0 := by omega
      subst this
      rw [readM_get _ _ _ _ (by omega), readM_get _ _ _ _ (by omega), writeV, if_pos hg, writeM_out]
      simp only [Sp.has, decide_eq_false_iff_not] at hin
      obtain ⟨_, h1⟩ := ask_ok hg
      omega
    · rw [List.getElem?_eq_none (by rw [readM_length]; omega), List.getElem?_eq_none (by rw [readM_length]; omega)]
  · rfl

set_option maxRecDepth 100000 in
set_option maxHeartbeats 4000000 in
theorem machKeeps_walk (w : World) (ram : Sp) (okr : ram.ok) (A0 : Option Addr) (n0 c0 : Nat) (J : List Ck) (hJ : Rd w w.heap.size 2 A0 n0 (ccells J)) (hJo : ∀ k ∈ J, k.ok w w.heap.size) (a : Int) (wa : (Lit.int .u64 a).wf = true)
    (A : Option Addr) (n c : Nat) (l : List UInt8) (hR : Rd w w.heap.size 1 A n (bcells l)) (hnc : n ≤ c) (hc : c ≤ 9223372036854775807) (o : Int) (wo : (Lit.int .u64 o).wf = true) :
    Calls Try.prog 3 #[.agg ram.cells, .slice A0 n0 c0, .int .u64 a, .slice A n c, .int .u64 o] w fun e w' => e = .returned (.bool true) ∧ Below w.heap.size w w' := by
  obtain ⟨ad, had, rfl⟩ := nat_u64 wa
  obtain ⟨oth, hoth, rfl⟩ := nat_u64 wo
  have hl : n = l.length := by have := hR.len; rw [bcells_length] at this; omega
  have hJn : n0 = J.length := by have := hJ.len; rw [ccells_length] at this; omega
  have HL := Lib.hid hl
  have HJN := Lib.hid hJn
  have HJO := Lib.hid hJo
  have hb := Blk.new w 24 ram.cells
  have B0 : Below w.heap.size w (w.alloc (.cells ram.cells 24)) := (Below.refl _ _).alloc (Nat.le_refl _) _
  clear wa wo hl hJn hJo
  go_enter Try.func3, Try.ntmps3
  go_wp2_with fail
  generalize w.alloc (.cells ram.cells 24) = W0 at *
  refine (awake09 W0).mono ?_
  rintro e W1 ⟨rfl, hB1⟩
  have hb1 := hb.below hB1 hb.lt
  have B1 := B0.trans (hB1.mono B0.size)
  clear hb B0 hB1
  go_wp2_with fail
  have hfew := few_any none 0 0 [] A0 n0 c0 J W1 (Rd.nil _ _ _ _) ((hJ.below B1).more B1.size) (by intro d hd; cases hd) (fun k hk => ⟨(HJO.out k hk).at_, (HJO.out k hk).cap, ((HJO.out k hk).rd.below B1).more B1.size⟩)
  obtain ⟨fw, hfw⟩ : ∃ q, q = fewV [] J := ⟨_, rfl⟩
  rw [← hfw] at hfew
  refine Calls.mono hfew ?_
  rintro e W2 ⟨rfl, hB2⟩
  have hb2 := hb1.below hB2 hb1.lt
  have B2 := B1.trans (hB2.mono B1.size)
  clear hfew hb1 B1 hB2
  cases fw with
  | false =>
    clear hfw
    go_wp2
    go_ret
    exact ⟨rfl, B2⟩
  | true =>
    obtain ⟨hJ10, hJ5⟩ := few_nil hfw.symm
    have HJ5 := Lib.hid hJ5
    have hn10 : n0 ≤ 10 := by rw [HJN.out]; exact hJ10
    clear hfw hJ10 hJ5
    go_wp2_with ((with_reducible refine at_load 24 ?_); refine wpList_loadAllW _ rfl 24 _ rfl w.heap.size 24 ram.cells hb2 _ rfl Try.underlying24 rfl infSpan ?_)
    · go_ret
      exact ⟨rfl, B2⟩
    · have hn5 : n ≤ 5000 := by omega
      have hcv : IntKind.u64.wrap (n : Int) = (n : Int) := IntWalk.u64_in _ (by omega)
      have hnew := mnew_any ram okr A0 n0 c0 J (fun k hk => by rw [← (HJO.out k hk).len]; exact HJ5.out k hk) hn10 W2 ((hJ.below B2).more B2.size) (fun k hk => ⟨(HJO.out k hk).at_, (HJO.out k hk).cap, ((HJO.out k hk).rd.below B2).more B2.size⟩)
      obtain ⟨E, hE⟩ : ∃ E, E = newErr ram J := ⟨_, rfl⟩
      obtain ⟨M, hM0⟩ : ∃ M, M = newM ram J := ⟨_, rfl⟩
      unfold NewRet at hnew
      rw [← hE, ← hM0] at hnew
      refine Calls.mono hnew ?_
      rintro e W3 ⟨hB3, ⟨h0, rfl⟩ | ⟨h0, p, F, rfl, hM, hF⟩⟩
      · have B3 := B2.trans (hB3.mono B2.size)
        have hne : (E != 0) = true := by simpa using h0
        have hpn := ptrNil
        clear hE hnew h0 hM0
        go_wp2
        go_ret
        exact ⟨rfl, B3⟩
      · have hr40 := ramOk_40 (newErr_ram (by rw [← hE]; exact h0))
        have B3 := B2.trans (hB3.mono B2.size)
        have hFw : ∀ b, F b → w.heap.size ≤ b := fun b hb => Nat.le_trans B2.size (hF b hb)
        have hrd1 := mread_any p ram okr M F (n0 * 5000) oth 1 hoth (by omega) W3 hM
        obtain ⟨V, hV⟩ : ∃ V, V = readV ram M oth 1 := ⟨_, rfl⟩
        obtain ⟨f, hf⟩ : ∃ f, f = askErr ram oth 1 := ⟨_, rfl⟩
        rw [← hV, ← hf] at hrd1
        have HV := Lib.hid hV
        have HF := Lib.hid hf
        clear hE hnew h0 hM0 hb2 B2 hB3 hF hV hf
        go_wp2_with fail
        refine Calls.mono hrd1 ?_
        rintro e W4 ⟨A4, c4, rfl, _, r4, hB4, hA4⟩
        have B4 := B3.trans (hB4.mono B3.size)
        have hM4 := hM.below hB4 (Nat.le_refl _)
        have hwr := mwrite_any p ram okr hr40 M F (n0 * 5000) ad A n c l had HL.out hnc hc (by simp only [maxLen]; omega) W4 ((hR.below B4).more B4.size) (rd_far hR hFw B4) hM4
        obtain ⟨g, hg⟩ : ∃ g, g = askErr ram ad n := ⟨_, rfl⟩
        rw [← hg] at hwr
        have HG := Lib.hid hg
        clear hrd1 B3 hB4 hg
        go_wp2_with fail
        refine Calls.mono hwr ?_
        rintro e W5 ⟨rfl, F5, hM5, hC5, h51, h52⟩
        have B5 := B4.trans (hC5.below hFw B4.size)
        have r5 : Rd W5 W5.heap.size 1 A4 V.length (bcells V) := by
          refine ⟨r4.len, fun k v hv => ?_⟩
          obtain ⟨y, hy, h1, h2⟩ := r4.cell k v hv
          refine ⟨y, hy, Nat.lt_of_lt_of_le h1 hC5.size, ?_⟩
          rw [World.cell?_of_block (hC5.block _ (by rw [addr_block]; exact h1) (fun hFq => ?_))]
          · exact h2
          · rw [addr_block] at hFq
            exact absurd (hM.flt _ hFq) (Nat.not_lt.2 (hA4 y hy))
        have hrd2 := mread_any p ram okr (writeV ram M ad l) F5 _ ad n had (by omega) W5 hM5
        obtain ⟨X, hX⟩ : ∃ X, X = readV ram (writeV ram M ad l) ad n := ⟨_, rfl⟩
        rw [← hX, ← HG.out] at hrd2
        have HX := Lib.hid hX
        clear hwr hM4 B4 hM hX
        go_wp2_with fail
        refine Calls.mono hrd2 ?_
        rintro e W6 ⟨A6, c6, rfl, _, r6, hB6, _⟩
        have B6 := B5.trans (hB6.mono B5.size)
        have hM6 := hM5.below hB6 (Nat.le_refl _)
        have r56 := (r5.below hB6).more hB6.size
        have hrd3 := mread_any p ram okr (writeV ram M ad l) F5 _ oth 1 hoth (by omega) W6 hM6
        obtain ⟨N2, hN2⟩ : ∃ X, X = readV ram (writeV ram M ad l) oth 1 := ⟨_, rfl⟩
        rw [← hN2, ← HF.out] at hrd3
        have HN2 := Lib.hid hN2
        clear hrd2 hM5 B5 hN2
        go_wp2_with fail
        refine Calls.mono hrd3 ?_
        rintro e W7 ⟨A7, c7, rfl, _, r7, hB7, _⟩
        have B7 := B6.trans (hB7.mono B6.size)
        have r57 := (r56.below hB7).more hB7.size
        have r67 := (r6.below hB7).more hB7.size
        clear hrd3 hM6 B6
        have hst : ∀ W, Below W7.heap.size W7 W → (convert 26 9 (.slice A4 V.length c4)).run Try.prog W = .ok (.string ⟨V.toArray⟩) W ∧ (convert 26 9 (.slice A6 X.length c6)).run Try.prog W = .ok (.string ⟨X.toArray⟩) W ∧
            (convert 26 9 (.slice A7 N2.length c7)).run Try.prog W = .ok (.string ⟨N2.toArray⟩) W ∧ (convert 26 9 (.slice A n c)).run Try.prog W = .ok (.string ⟨l.toArray⟩) W := fun W hB8 =>
          ⟨run_str W 26 9 5 A4 V.length c4 V Try.underlying26 Try.underlying5 Try.underlying9 (r57.below hB8), run_str W 26 9 5 A6 X.length c6 X Try.underlying26 Try.underlying5 Try.underlying9 (r67.below hB8),
           run_str W 26 9 5 A7 N2.length c7 N2 Try.underlying26 Try.underlying5 Try.underlying9 (r7.below hB8), run_str W 26 9 5 A n c l Try.underlying26 Try.underlying5 Try.underlying9 ((hR.below B7).below (hB8.mono B7.size))⟩
        by_cases h0 : g = 0
        · have hgl : askErr ram ad l.length = 0 := by rw [← HL.out, ← HG.out]; exact h0
          have hXl : X = l := by rw [HX.out, readV, if_pos (by rw [← HG.out]; exact h0), writeV, if_pos hgl, HL.out, readM_write]
          obtain ⟨q, hq⟩ : ∃ q, q = (Sp.mk ad n).has oth := ⟨_, rfl⟩
          have hhas := rhas_any ⟨ad, n⟩ ⟨had, by show n < _; omega⟩ oth hoth W7
          rw [← hq] at hhas
          have hks : q = false → N2 = V := fun h => by rw [HN2.out, HV.out]; exact keep_same hgl (by rw [← HL.out, ← hq]; exact h)
          clear hgl hq r57 r67 r7 r56 r6 r5 r4 hJ hR HG HX HV HN2 HF
          subst h0
          subst hXl
          cases q with
          | true =>
            clear hks
            have s0 := (hst W7 (Below.refl _ _)).2.1
            have s1 := (hst W7 (Below.refl _ _)).2.2.2
            go_wp2_with ((with_reducible refine at_build 24 ?_); refine wpList_buildV _ rfl #[(0, .int .u64 (ad : Int)), (1, .int .u64 (n : Int))] rfl (by simp [Act.eval]) (run_sp _ _ _) ?_)
            refine Calls.mono hhas ?_
            rintro e W8 ⟨rfl, hB8⟩
            obtain ⟨s4, s6, s7, sb⟩ := hst W8 hB8
            clear hst s0 s1 hhas
            go_wp2
            go_ret
            exact ⟨rfl, B7.trans (hB8.mono B7.size)⟩
          | false =>
            have e := hks rfl
            clear hks
            subst e
            go_wp2_with ((with_reducible refine at_build 24 ?_); refine wpList_buildV _ rfl #[(0, .int .u64 (ad : Int)), (1, .int .u64 (n : Int))] rfl (by simp [Act.eval]) (run_sp _ _ _) ?_)
            refine Calls.mono hhas ?_
            rintro e W8 ⟨rfl, hB8⟩
            obtain ⟨s4, s6, s7, sb⟩ := hst W8 hB8
            clear hst hhas
            go_wp2
            go_ret
            exact ⟨rfl, B7.trans (hB8.mono B7.size)⟩
        · have hne : (g != 0) = true := by simpa using h0
          have hgl : ¬ askErr ram ad l.length = 0 := by rw [← HL.out, ← HG.out]; exact h0
          have e : N2 = V := by rw [HN2.out, HV.out, writeV, if_neg hgl]
          obtain ⟨s4, s6, s7, sb⟩ := hst W7 (Below.refl _ _)
          clear hgl h0 hst HG HX HV HN2 HF
          subst e
          go_wp2
          go_ret
          exact ⟨rfl, B7⟩
end Go.Proofs.Ytjfmgoickokbjaa
