/-
  Walk: pdqsortOrdered at uint64.
-/
import Derived.Test.YtjfmgoickokbjaaSrtI
namespace Go.Proofs.Ytjfmgoickokbjaa
open Go.RowKit

/-- what stands of the sort: once [aa, bb) is sorted, all is -/
structure PI (aa bb n : Nat) (d : Array Nat) (G : Array Nat → Prop) : Prop where
  below : Sort.Below ltN aa bb d
  size : d.size = n
  le : bb ≤ n
  fin : ∀ X, Sort.PermIn aa bb d X → Sort.SortedIn ltN aa bb X → G X
namespace PI
variable {aa bb n p : Nat} {d d2 : Array Nat} {G : Array Nat → Prop}
theorem perm (h : PI aa bb n d G) (hp : Sort.PermIn aa bb d d2) : PI aa bb n d2 G :=
  ⟨h.below.perm (by rw [h.size]; exact h.le) hp, by rw [hp.1]; exact h.size, h.le, fun X h1 h2 => h.fin X (Sort.permIn_trans _ _ _ aa bb hp h1) h2⟩
theorem eq (h : PI aa bb n d G) (ha : 0 < aa) (hp1 : aa ≤ p) (hp2 : p < bb) (hl : ltN d[aa - 1]! d[p]! = false) :
    aa < (Sort.partitionEqual ltN d aa bb p).1 ∧ (Sort.partitionEqual ltN d aa bb p).1 ≤ bb ∧ PI (Sort.partitionEqual ltN d aa bb p).1 bb n (Sort.partitionEqual ltN d aa bb p).2 G := by
  obtain ⟨h1, h2, h3, h4, h5⟩ := Sort.round_eq (lt := ltN) swoN (Sort.partitionEqual_holds ltN) (mid := (Sort.partitionEqual ltN d aa bb p).1) (d4 := (Sort.partitionEqual ltN d aa bb p).2) ha hp1 hp2 (by rw [h.size]; exact h.le) h.below hl rfl
  exact ⟨h1, h2, h4, by rw [h3]; exact h.size, h.le, fun X k1 k2 => by obtain ⟨k3, k4⟩ := h5 X k1 k2; exact h.fin X k3 k4⟩
theorem part (h : PI aa bb n d G) (hp1 : aa ≤ p) (hp2 : p < bb) :
    aa ≤ (Sort.partition ltN d aa bb p).1 ∧ (Sort.partition ltN d aa bb p).1 < bb ∧ Sort.Below ltN aa (Sort.partition ltN d aa bb p).1 (Sort.partition ltN d aa bb p).2.2 ∧ Sort.Below ltN ((Sort.partition ltN d aa bb p).1 + 1) bb (Sort.partition ltN d aa bb p).2.2 ∧ (Sort.partition ltN d aa bb p).2.2.size = n ∧
    (∀ L, Sort.PermIn aa (Sort.partition ltN d aa bb p).1 (Sort.partition ltN d aa bb p).2.2 L → Sort.SortedIn ltN aa (Sort.partition ltN d aa bb p).1 L → PI ((Sort.partition ltN d aa bb p).1 + 1) bb n L G) ∧
    (∀ L, Sort.PermIn ((Sort.partition ltN d aa bb p).1 + 1) bb (Sort.partition ltN d aa bb p).2.2 L → Sort.SortedIn ltN ((Sort.partition ltN d aa bb p).1 + 1) bb L → PI aa (Sort.partition ltN d aa bb p).1 n L G) := by
  obtain ⟨h1, h2, h3, h4, h5, h6, h7⟩ := Sort.round_part (lt := ltN) swoN (Sort.partition_holds ltN) (mid := (Sort.partition ltN d aa bb p).1) (ap := (Sort.partition ltN d aa bb p).2.1) (d4 := (Sort.partition ltN d aa bb p).2.2) hp1 hp2 (by rw [h.size]; exact h.le) h.below rfl
  have hs := h3.trans h.size
  refine ⟨h1, h2, h4, h5, hs, fun L k1 k2 => ?_, fun L k1 k2 => ?_⟩
  · obtain ⟨k3, k4⟩ := h6 L k1 k2
    exact ⟨k3, by rw [k1.1]; exact hs, h.le, fun X k5 k6 => by obtain ⟨k7, k8⟩ := k4 X k5 k6; exact h.fin X k7 k8⟩
  · obtain ⟨k3, k4⟩ := h7 L k1 k2
    exact ⟨k3, by rw [k1.1]; exact hs, by have := h.le; omega, fun X k5 k6 => by obtain ⟨k7, k8⟩ := k4 X k5 k6; exact h.fin X k7 k8⟩
end PI

set_option maxRecDepth 100000 in
set_option maxHeartbeats 16000000 in
theorem pdq_walk (g : Nat) (R : List Value) (n cap : Nat) (hn5 : n ≤ 1000000) (N : Nat) : ∀ (d : Array Nat) (lo hi limit : Nat) (w : World), hi - lo = N → d.size = n → lo ≤ hi → hi ≤ n → limit ≤ 100 → Sort.Below ltN lo hi d → NR w g d R →
    Calls Try.prog 69 #[.slice (some ⟨g, 0, none⟩) n cap, .int .i64 (lo : Int), .int .i64 (hi : Int), .int .i64 (limit : Int)] w (SRet w g R fun d' => Sort.PermIn lo hi d d' ∧ Sort.SortedIn ltN lo hi d') := by
  induction N using Nat.strongRecOn with
  | _ N ih =>
  intro d lo hi limit w hNe hn hlo hhi hlim hB hN
  obtain ⟨G, hG⟩ : ∃ G : Array Nat → Prop, (fun d' => Sort.PermIn lo hi d d' ∧ Sort.SortedIn ltN lo hi d') = G := ⟨_, rfl⟩
  have HG : Hid (∀ X, G X → Sort.PermIn lo hi d X ∧ Sort.SortedIn ltN lo hi X) := Lib.hid (fun X h => by rw [← hG] at h; exact h)
  have hI0 : Hid (PI lo hi n d G) := Lib.hid ⟨hB, hn, hhi, fun X h1 h2 => by rw [← hG]; exact ⟨h1, h2⟩⟩
  clear hG hB
  go_enter Try.func69, Try.ntmps69
  go_wp2
  go_loopw [1, 2, 3, 8, 9] (fun v1 v2 v3 v8 v9 wr => ∃ (aa bb l : Nat) (wb wp : Bool) (d1 : Array Nat), v1 = .int .i64 (aa : Int) ∧ v2 = .int .i64 (bb : Int) ∧ v3 = .int .i64 (l : Int) ∧ v8 = .bool wb ∧ v9 = .bool wp ∧ lo ≤ aa ∧ aa ≤ bb ∧ bb ≤ n ∧ bb - aa ≤ N ∧ l ≤ 100 ∧ Hid (PI aa bb n d1 G) ∧ NR wr g d1 R ∧ Chg (OnlyG g) w wr) (fun v1 v2 _ _ _ _ => (intOf v2 - intOf v1).toNat)
  case atStart => exact ⟨lo, hi, limit, true, true, d, rfl, rfl, rfl, rfl, rfl, Nat.le_refl _, hlo, hhi, by omega, hlim, hI0, hN, Chg.refl _ _⟩
  case round =>
    obtain ⟨aa, bb, l, wb, wp, d1, rfl, rfl, rfl, rfl, rfl, hla, hab, hbn, hbN, hl, hI_d1, hN_wr, hC_wr⟩ := hrel
    obtain ⟨L, hL⟩ : ∃ L, bb - aa = L := ⟨_, rfl⟩
    have hLw : IntKind.i64.wrap ((bb : Int) - (aa : Int)) = (L : Int) := by rw [IntWalk.i64_in _ (by omega)]; omega
    by_cases h12 : L ≤ 12
    · have h12i : (L : Int) ≤ 12 := by omega
      have hcall := insertionSort_walk g R d1 n cap aa bb hI_d1.out.size hab hbn hn5 wr hN_wr
      go_wp2_with fail
      refine Calls.mono hcall ?_
      rintro e W2 ⟨rfl, d2, rfl, hN2, hC2⟩
      obtain ⟨h1, h2⟩ := Sort.insertionSort_holds (lt := ltN) swoN d1 aa bb hab (by rw [hI_d1.out.size]; exact hbn)
      have hfin := Lib.hid (HG.out _ (hI_d1.out.fin _ h1 h2))
      clear hcall h1 h2
      go_wp2
      refine bodyPost_ret (results_none rfl _ _ _) rfl ?_
      exact ⟨rfl, _, hfin.out, hN2, hC_wr.trans hC2⟩
    · have h12i : ¬ (L : Int) ≤ 12 := by omega
      have hab12 : aa + 12 < bb := by omega
      by_cases hl0 : l = 0
      · subst hl0
        have hcall := heapSort_walk g R d1 n cap aa bb hI_d1.out.size (by omega) hbn hn5 wr hN_wr
        go_wp2_with fail
        refine Calls.mono hcall ?_
        rintro e W2 ⟨rfl, d2, rfl, hN2, hC2⟩
        obtain ⟨h1, h2⟩ := Sort.heapSort_holds (lt := ltN) swoN d1 aa bb hab (by rw [hI_d1.out.size]; exact hbn)
        have hfin := Lib.hid (HG.out _ (hI_d1.out.fin _ h1 h2))
        clear hcall h1 h2
        go_wp2
        refine bodyPost_ret (results_none rfl _ _ _) rfl ?_
        exact ⟨rfl, _, hfin.out, hN2, hC_wr.trans hC2⟩
      · have hl0i : ((l : Int) == 0) = false := by simp; omega
        have hl1 : IntKind.i64.wrap ((l : Int) - 1) = ((l - 1 : Nat) : Int) := by rw [IntWalk.i64_in _ (by omega)]; omega
        obtain ⟨l1, hl1e⟩ : ∃ k, l - 1 = k := ⟨_, rfl⟩
        rw [hl1e] at hl1
        have hl12 : l1 ≤ 100 := by omega
        cases wb with
        | false =>
          have hcall := breakPatterns_walk g R d1 n cap aa bb hI_d1.out.size hab12 hbn hn5 wr hN_wr
          go_wp2_with fail
          refine Calls.mono hcall ?_
          rintro e W2 ⟨rfl, d2, hpm, hN_W2, hC2⟩
          have hC_W2 := hC_wr.trans hC2
          have hI_d2 := Lib.hid (hI_d1.out.perm hpm)
          clear hcall hpm hC2 hN_wr hC_wr
          have hcall := choosePivot_walk g R d2 n cap aa bb hI_d2.out.size (by omega) hbn hn5 W2 hN_W2
          go_wp2_with fail
          refine Calls.mono hcall ?_
          rintro e W3 ⟨p, hint, hp, hh, rfl, hN_W3, hB3⟩
          have hC_W3 : Chg (OnlyG g) w W3 := hC_W2.trans (Chg.of_ext hB3)
          clear hcall hB3
          rcases hh with rfl | rfl | rfl
          · skip
            go_wp2_with fail
            have hs_d2 : d2.size = n := hI_d2.out.size
            refine s_cut [none, none, none, none, none, none, none, none, none, none, none, none, none, none, none, none, none, none, none, none, none, none, none, none, none, none, none, none, none, none, none, none, none, none, none, none, none, none, none, none, none, none, none, none, none, none, none, none, none, none, none, none, none, none, none, none, none, none, none, none, none, none, none, none, none, none, none, none, none, none, none, none, none, some 73, some 74, some 75, some 76, some 77, some 78, some 79, some 80, some 81, some 82, some 83, some 84, some 85, some 86, some 87, none, none, none, none, none, none, none, none, none, none, none, none, none, none, none, none, none, none, none, none, none, none, none, none, none, none, none, none, none, none, none, none, none, none, none, none, none, none, none, none, none, none, none, none, none, none] (fun f W => f 87 = .bool (decide (0 < aa) && !ltN d2[aa - 1]! d2[p]!) ∧ Below W3.heap.size W3 W) (fun Q1 hQ1 => ?_) ?_
            · by_cases hg : 0 < aa
              · skip
                refine Flow.wp_region_flow (W3.heap.size) [] [] (by kernel_rfl) (by kernel_rfl) (Nat.le_refl _) (fun _ h => by cases h) Flow.facts_nil ?_
                refine Flow.pass_old (X := .int .i64 ((aa : Int))) 1 (Flow.met_none rfl) (.inl rfl) (by kernel_rfl) (by kernel_rfl) rfl ?_
                refine Flow.pass_val (.bool true) (Flow.met_none rfl) (fun a W hH => ?_) ?_
                · have e0 := Flow.see_new 73 0 hH.sees (by kernel_rfl) (by kernel_rfl) rfl rfl
                  go_simp; first | done | rfl | omega | (simp; done) | (simp; omega) | exact decide_eq_true (by omega) | exact decide_eq_false (by omega)
                refine Flow.pass_copy 74 1 (Flow.met_none rfl) (.inl rfl) (by kernel_rfl) (by kernel_rfl) rfl rfl (fun _ _ => Flow.kept_eqs _ _) ?_
                refine Flow.pass_old (X := .slice (some ⟨g, 0, none⟩) n cap) 0 (Flow.met_some 2 true 75 rfl rfl (by kernel_rfl) (by kernel_rfl) rfl rfl) (.inl rfl) (by kernel_rfl) (by kernel_rfl) rfl ?_
                refine Flow.pass_old (X := .int .i64 ((aa : Int))) 1 (Flow.met_some 2 true 75 rfl rfl (by kernel_rfl) (by kernel_rfl) rfl rfl) (.inl rfl) (by kernel_rfl) (by kernel_rfl) rfl ?_
                refine Flow.pass_val (.int .i64 ((aa : Int) - 1)) (Flow.met_some 2 true 75 rfl rfl (by kernel_rfl) (by kernel_rfl) rfl rfl) (fun a W hH => ?_) ?_
                · have e0 := Flow.see_new 77 4 hH.sees (by kernel_rfl) (by kernel_rfl) rfl rfl
                  go_simp; first | done | rfl | (rw [IntWalk.i64_in _ (by omega)]; first | done | rfl | omega | (simp; done))
                refine Flow.pass_val (.pointer (some ⟨g, (aa - 1), none⟩)) (Flow.met_some 2 true 75 rfl rfl (by kernel_rfl) (by kernel_rfl) rfl rfl) (fun a W hH => ?_) ?_
                · have e0 := Flow.see_new 76 3 hH.sees (by kernel_rfl) (by kernel_rfl) rfl rfl
                  have e1 := Flow.see_new 78 5 hH.sees (by kernel_rfl) (by kernel_rfl) rfl rfl
                  exact s_ixS (s := 1) ((aa - 1)) _ rfl Try.underlying72 (by kernel_rfl) (by first | exact e0 | simpa [Act.eval] using e0 | (simp [Act.eval])) (by first | exact e1 | simpa [Act.eval] using e1 | (simp [Act.eval])) (by omega) (by omega) (by omega)
                refine Flow.pass_val (.int .u64 ((d2[(aa - 1)]! : Nat) : Int)) (Flow.met_some 2 true 75 rfl rfl (by kernel_rfl) (by kernel_rfl) rfl rfl) (fun a W hH => ?_) ?_
                · have e0 := Flow.see_new 79 6 hH.sees (by kernel_rfl) (by kernel_rfl) rfl rfl
                  have cc := nr_cell (hN_W3.below ((Below.refl W3.heap.size W3).drew.trans hH.below) hN_W3.lt) ((aa - 1)) (by omega); go_simp; first | done | rfl
                refine Flow.pass_old (X := .slice (some ⟨g, 0, none⟩) n cap) 0 (Flow.met_some 2 true 75 rfl rfl (by kernel_rfl) (by kernel_rfl) rfl rfl) (.inl rfl) (by kernel_rfl) (by kernel_rfl) rfl ?_
                refine Flow.pass_old (X := .int .i64 ((p : Int))) 11 (Flow.met_some 2 true 75 rfl rfl (by kernel_rfl) (by kernel_rfl) rfl rfl) (.inl rfl) (by kernel_rfl) (by kernel_rfl) rfl ?_
                refine Flow.pass_val (.pointer (some ⟨g, p, none⟩)) (Flow.met_some 2 true 75 rfl rfl (by kernel_rfl) (by kernel_rfl) rfl rfl) (fun a W hH => ?_) ?_
                · have e0 := Flow.see_new 81 8 hH.sees (by kernel_rfl) (by kernel_rfl) rfl rfl
                  have e1 := Flow.see_new 82 9 hH.sees (by kernel_rfl) (by kernel_rfl) rfl rfl
                  exact s_ixS (s := 1) (p) _ rfl Try.underlying72 (by kernel_rfl) (by first | exact e0 | simpa [Act.eval] using e0 | (simp [Act.eval])) (by first | exact e1 | simpa [Act.eval] using e1 | (simp [Act.eval])) (by omega) (by omega) (by omega)
                refine Flow.pass_val (.int .u64 ((d2[p]! : Nat) : Int)) (Flow.met_some 2 true 75 rfl rfl (by kernel_rfl) (by kernel_rfl) rfl rfl) (fun a W hH => ?_) ?_
                · have e0 := Flow.see_new 83 10 hH.sees (by kernel_rfl) (by kernel_rfl) rfl rfl
                  have cc := nr_cell (hN_W3.below ((Below.refl W3.heap.size W3).drew.trans hH.below) hN_W3.lt) (p) (by omega); go_simp; first | done | rfl
                refine Flow.pass_step (Reg.eqs (.bool (ltN (d2[(aa - 1)]!) (d2[p]!)))) (fun _ _ => Flow.kept_eqs _ _) (Flow.met_some 2 true 75 rfl rfl (by kernel_rfl) (by kernel_rfl) rfl rfl) (fun a W hH => ?_) ?_
                · have e0 := Flow.see_new 80 7 hH.sees (by kernel_rfl) (by kernel_rfl) rfl rfl
                  have e1 := Flow.see_new 84 11 hH.sees (by kernel_rfl) (by kernel_rfl) rfl rfl
                  refine Reg.wp_call rfl Try.func77 rfl (by kernel_rfl) (by simp [Act.eval, e0, e1]) (lessN (d2[(aa - 1)]!) (d2[p]!) W) ?_
                  rintro e w' ⟨rfl, rfl⟩
                  exact ⟨_, rfl, _, rfl, Ext.refl _, rfl⟩
                refine Flow.pass_val (.bool (!(ltN (d2[(aa - 1)]!) (d2[p]!)))) (Flow.met_some 2 true 75 rfl rfl (by kernel_rfl) (by kernel_rfl) rfl rfl) (fun a W hH => ?_) ?_
                · have e0 := Flow.see_new 85 12 hH.sees (by kernel_rfl) (by kernel_rfl) rfl rfl
                  go_simp; first | done | rfl
                refine Flow.pass_val (.bool (!(ltN (d2[(aa - 1)]!) (d2[p]!)))) (Flow.met_none rfl) (fun a W hH => ?_) ?_
                · have e0 := Flow.see_new 75 2 hH.sees (by kernel_rfl) (by kernel_rfl) rfl rfl
                  have e1 := Flow.see_new 86 13 hH.sees (by kernel_rfl) (by kernel_rfl) rfl rfl
                  go_simp; first | done | rfl
                refine Flow.pass_end [none, none, none, none, none, none, none, none, none, none, none, none, none, none, none, none, none, none, none, none, none, none, none, none, none, none, none, none, none, none, none, none, none, none, none, none, none, none, none, none, none, none, none, none, none, none, none, none, none, none, none, none, none, none, none, none, none, none, none, none, none, none, none, none, none, none, none, none, none, none, none, none, none, some 73, some 74, some 75, some 76, some 77, some 78, some 79, some 80, some 81, some 82, some 83, some 84, some 85, some 86, some 87, none, none, none, none, none, none, none, none, none, none, none, none, none, none, none, none, none, none, none, none, none, none, none, none, none, none, none, none, none, none, none, none, none, none, none, none, none, none, none, none, none, none, none, none, none, none] (by kernel_rfl) ?_
                intro f gg w9 hB hfa hT hfg
                have h87 : f 87 = _ := (hfg 87 14 (by kernel_rfl)).trans (hT 14 _ (by kernel_rfl) rfl)
                exact hQ1 f w9 ⟨by rw [h87, decide_eq_true hg, Bool.true_and], (Below.refl W3.heap.size W3).drew.trans hB⟩
              · skip
                refine Flow.wp_region_flow (W3.heap.size) [] [] (by kernel_rfl) (by kernel_rfl) (Nat.le_refl _) (fun _ h => by cases h) Flow.facts_nil ?_
                refine Flow.pass_old (X := .int .i64 ((aa : Int))) 1 (Flow.met_none rfl) (.inl rfl) (by kernel_rfl) (by kernel_rfl) rfl ?_
                refine Flow.pass_val (.bool false) (Flow.met_none rfl) (fun a W hH => ?_) ?_
                · have e0 := Flow.see_new 73 0 hH.sees (by kernel_rfl) (by kernel_rfl) rfl rfl
                  go_simp; first | done | rfl | omega | (simp; done) | (simp; omega) | exact decide_eq_true (by omega) | exact decide_eq_false (by omega)
                refine Flow.pass_copy 74 1 (Flow.met_none rfl) (.inl rfl) (by kernel_rfl) (by kernel_rfl) rfl rfl (fun _ _ => Flow.kept_eqs _ _) ?_
                refine Flow.pass_skip (fun a W hH => Flow.not_wanted 2 true 75 hH rfl rfl (by kernel_rfl) (by kernel_rfl) rfl rfl) ?_
                refine Flow.pass_skip (fun a W hH => Flow.not_wanted 2 true 75 hH rfl rfl (by kernel_rfl) (by kernel_rfl) rfl rfl) ?_
                refine Flow.pass_skip (fun a W hH => Flow.not_wanted 2 true 75 hH rfl rfl (by kernel_rfl) (by kernel_rfl) rfl rfl) ?_
                refine Flow.pass_skip (fun a W hH => Flow.not_wanted 2 true 75 hH rfl rfl (by kernel_rfl) (by kernel_rfl) rfl rfl) ?_
                refine Flow.pass_skip (fun a W hH => Flow.not_wanted 2 true 75 hH rfl rfl (by kernel_rfl) (by kernel_rfl) rfl rfl) ?_
                refine Flow.pass_skip (fun a W hH => Flow.not_wanted 2 true 75 hH rfl rfl (by kernel_rfl) (by kernel_rfl) rfl rfl) ?_
                refine Flow.pass_skip (fun a W hH => Flow.not_wanted 2 true 75 hH rfl rfl (by kernel_rfl) (by kernel_rfl) rfl rfl) ?_
                refine Flow.pass_skip (fun a W hH => Flow.not_wanted 2 true 75 hH rfl rfl (by kernel_rfl) (by kernel_rfl) rfl rfl) ?_
                refine Flow.pass_skip (fun a W hH => Flow.not_wanted 2 true 75 hH rfl rfl (by kernel_rfl) (by kernel_rfl) rfl rfl) ?_
                refine Flow.pass_skip (fun a W hH => Flow.not_wanted 2 true 75 hH rfl rfl (by kernel_rfl) (by kernel_rfl) rfl rfl) ?_
                refine Flow.pass_skip (fun a W hH => Flow.not_wanted 2 true 75 hH rfl rfl (by kernel_rfl) (by kernel_rfl) rfl rfl) ?_
                refine Flow.pass_val (.bool false) (Flow.met_none rfl) (fun a W hH => ?_) ?_
                · have e0 := Flow.see_new 75 2 hH.sees (by kernel_rfl) (by kernel_rfl) rfl rfl
                  have e1 := Flow.see_new 86 13 hH.sees (by kernel_rfl) (by kernel_rfl) rfl rfl
                  go_simp; first | done | rfl
                refine Flow.pass_end [none, none, none, none, none, none, none, none, none, none, none, none, none, none, none, none, none, none, none, none, none, none, none, none, none, none, none, none, none, none, none, none, none, none, none, none, none, none, none, none, none, none, none, none, none, none, none, none, none, none, none, none, none, none, none, none, none, none, none, none, none, none, none, none, none, none, none, none, none, none, none, none, none, some 73, some 74, some 75, some 76, some 77, some 78, some 79, some 80, some 81, some 82, some 83, some 84, some 85, some 86, some 87, none, none, none, none, none, none, none, none, none, none, none, none, none, none, none, none, none, none, none, none, none, none, none, none, none, none, none, none, none, none, none, none, none, none, none, none, none, none, none, none, none, none, none, none, none, none] (by kernel_rfl) ?_
                intro f gg w9 hB hfa hT hfg
                have h87 : f 87 = _ := (hfg 87 14 (by kernel_rfl)).trans (hT 14 _ (by kernel_rfl) rfl)
                exact hQ1 f w9 ⟨by rw [h87, decide_eq_false hg, Bool.false_and], (Below.refl W3.heap.size W3).drew.trans hB⟩
            intro f Wt ⟨h87, hBWt⟩
            simp only [Reg.sel, h87]
            have hN_Wt := Blk.below hN_W3 hBWt (Blk.lt hN_W3)
            have hC_Wt := hC_W3.trans (Chg.of_ext hBWt)
            clear h87 hBWt
            cases hq : (decide (0 < aa) && !ltN d2[aa - 1]! d2[p]!) with
            | true =>
              have hq2 : 0 < aa ∧ ltN d2[aa - 1]! d2[p]! = false := by simpa using hq
              obtain ⟨z1, z2, z3⟩ := hI_d2.out.eq hq2.1 hp.1 hp.2 hq2.2
              have hcall := partitionEqual_walk g R d2 n cap aa bb p hI_d2.out.size hp.1 hp.2 hbn hn5 Wt hN_Wt
              generalize Sort.partitionEqual ltN d2 aa bb p = r at *
              obtain ⟨mid, d5⟩ := r
              have z1 : aa < mid := z1
              have z2 : mid ≤ bb := z2
              have z3 : PI mid bb n d5 G := z3
              have z3 := Lib.hid z3
              clear hq hq2
              go_wp2_with fail
              refine Calls.mono hcall ?_
              rintro e W7 ⟨rfl, hN7, hC7⟩
              clear hcall
              go_wp2
              go_roundw
              case rel => first | exact ⟨mid, bb, l1, false, wp, d5, rfl, rfl, rfl, rfl, rfl, by omega, z2, hbn, by omega, hl12, z3, hN7, hC_Wt.trans hC7⟩ | ((repeat apply Exists.intro); refine ⟨?_, rfl⟩; exact ⟨mid, bb, l1, false, wp, d5, rfl, rfl, rfl, rfl, rfl, by omega, z2, hbn, by omega, hl12, z3, hN7, hC_Wt.trans hC7⟩)
              case measure => first | (simp [intOf]; done) | (simp [intOf]; omega) | (simp only [intOf]; omega)
            | false =>
              obtain ⟨z1, z2, z3, z4, z5, z6, z7⟩ := hI_d2.out.part hp.1 hp.2
              have hcall := partition_walk g R d2 n cap aa bb p hI_d2.out.size hp.1 hp.2 hbn hn5 Wt hN_Wt
              generalize Sort.partition ltN d2 aa bb p = r at *
              obtain ⟨mid, ap, d5⟩ := r
              have z1 : aa ≤ mid := z1
              have z2 : mid < bb := z2
              have z3 : Sort.Below ltN aa mid d5 := z3
              have z4 : Sort.Below ltN (mid + 1) bb d5 := z4
              have z5 : d5.size = n := z5
              have z6 : ∀ L, Sort.PermIn aa mid d5 L → Sort.SortedIn ltN aa mid L → PI (mid + 1) bb n L G := z6
              have z7 : ∀ L, Sort.PermIn (mid + 1) bb d5 L → Sort.SortedIn ltN (mid + 1) bb L → PI aa mid n L G := z7
              have z6 := Lib.hid z6
              have z7 := Lib.hid z7
              have z3 := Lib.hid z3
              have z4 := Lib.hid z4
              clear hq
              go_wp2_with fail
              refine Calls.mono hcall ?_
              rintro e W7 ⟨rfl, hN7, hC7⟩
              have hC_W7 := hC_Wt.trans hC7
              have q1 : IntKind.i64.wrap ((mid : Int) - (aa : Int)) = (mid : Int) - (aa : Int) := IntWalk.i64_in _ (by omega)
              have q2 : IntKind.i64.wrap ((bb : Int) - (mid : Int)) = (bb : Int) - (mid : Int) := IntWalk.i64_in _ (by omega)
              have q3 : IntKind.i64.wrap ((mid : Int) + 1) = ((mid + 1 : Nat) : Int) := by rw [IntWalk.i64_in _ (by omega)]; omega
              clear hcall hC7 hC_Wt
              by_cases hlr : mid - aa < bb - mid
              · have hlri : (mid : Int) - (aa : Int) < (bb : Int) - (mid : Int) := by omega
                have hrec := ih (mid - aa) (by omega) d5 aa mid l1 W7 rfl z5 z1 (by omega) hl12 z3.out hN7
                go_wp2_with fail
                refine Calls.mono hrec ?_
                rintro e W8 ⟨rfl, d6, ⟨hp6, hs6⟩, hN8, hC8⟩
                have hI6 := Lib.hid (z6.out d6 hp6 hs6)
                clear hrec hp6 hs6
                go_wp2
                go_roundw
                case rel => first | exact ⟨mid + 1, bb, l1, _, ap, d6, by go_num, rfl, rfl, rfl, rfl, by omega, by omega, hbn, by omega, hl12, hI6, hN8, hC_W7.trans hC8⟩ | ((repeat apply Exists.intro); refine ⟨?_, rfl⟩; exact ⟨mid + 1, bb, l1, _, ap, d6, by go_num, rfl, rfl, rfl, rfl, by omega, by omega, hbn, by omega, hl12, hI6, hN8, hC_W7.trans hC8⟩)
                case measure => first | (simp [intOf]; done) | (simp [intOf]; omega) | (simp only [intOf]; omega)
              · have hlri : ¬ (mid : Int) - (aa : Int) < (bb : Int) - (mid : Int) := by omega
                have hrec := ih (bb - (mid + 1)) (by omega) d5 (mid + 1) bb l1 W7 rfl z5 (by omega) hbn hl12 z4.out hN7
                go_wp2_with fail
                refine Calls.mono hrec ?_
                rintro e W8 ⟨rfl, d6, ⟨hp6, hs6⟩, hN8, hC8⟩
                have hI6 := Lib.hid (z7.out d6 hp6 hs6)
                clear hrec hp6 hs6
                go_wp2
                go_roundw
                case rel => first | exact ⟨aa, mid, l1, _, ap, d6, rfl, rfl, rfl, rfl, rfl, hla, z1, by omega, by omega, hl12, hI6, hN8, hC_W7.trans hC8⟩ | ((repeat apply Exists.intro); refine ⟨?_, rfl⟩; exact ⟨aa, mid, l1, _, ap, d6, rfl, rfl, rfl, rfl, rfl, hla, z1, by omega, by omega, hl12, hI6, hN8, hC_W7.trans hC8⟩)
                case measure => first | (simp [intOf]; done) | (simp [intOf]; omega) | (simp only [intOf]; omega)
          · skip
            go_wp2_with fail
            have hs_d2 : d2.size = n := hI_d2.out.size
            refine s_cut [none, none, none, none, none, none, none, none, none, none, none, none, none, none, none, none, none, none, none, none, none, none, none, none, none, none, none, none, none, none, none, none, none, none, none, none, none, none, none, none, none, none, none, none, none, none, none, none, none, none, none, none, none, none, none, none, none, none, none, none, none, none, none, none, none, none, none, none, none, none, none, none, none, some 73, some 74, some 75, some 76, some 77, some 78, some 79, some 80, some 81, some 82, some 83, some 84, some 85, some 86, some 87, none, none, none, none, none, none, none, none, none, none, none, none, none, none, none, none, none, none, none, none, none, none, none, none, none, none, none, none, none, none, none, none, none, none, none, none, none, none, none, none, none, none, none, none, none, none] (fun f W => f 87 = .bool (decide (0 < aa) && !ltN d2[aa - 1]! d2[p]!) ∧ Below W3.heap.size W3 W) (fun Q1 hQ1 => ?_) ?_
            · by_cases hg : 0 < aa
              · skip
                refine Flow.wp_region_flow (W3.heap.size) [] [] (by kernel_rfl) (by kernel_rfl) (Nat.le_refl _) (fun _ h => by cases h) Flow.facts_nil ?_
                refine Flow.pass_old (X := .int .i64 ((aa : Int))) 1 (Flow.met_none rfl) (.inl rfl) (by kernel_rfl) (by kernel_rfl) rfl ?_
                refine Flow.pass_val (.bool true) (Flow.met_none rfl) (fun a W hH => ?_) ?_
                · have e0 := Flow.see_new 73 0 hH.sees (by kernel_rfl) (by kernel_rfl) rfl rfl
                  go_simp; first | done | rfl | omega | (simp; done) | (simp; omega) | exact decide_eq_true (by omega) | exact decide_eq_false (by omega)
                refine Flow.pass_copy 74 1 (Flow.met_none rfl) (.inl rfl) (by kernel_rfl) (by kernel_rfl) rfl rfl (fun _ _ => Flow.kept_eqs _ _) ?_
                refine Flow.pass_old (X := .slice (some ⟨g, 0, none⟩) n cap) 0 (Flow.met_some 2 true 75 rfl rfl (by kernel_rfl) (by kernel_rfl) rfl rfl) (.inl rfl) (by kernel_rfl) (by kernel_rfl) rfl ?_
                refine Flow.pass_old (X := .int .i64 ((aa : Int))) 1 (Flow.met_some 2 true 75 rfl rfl (by kernel_rfl) (by kernel_rfl) rfl rfl) (.inl rfl) (by kernel_rfl) (by kernel_rfl) rfl ?_
                refine Flow.pass_val (.int .i64 ((aa : Int) - 1)) (Flow.met_some 2 true 75 rfl rfl (by kernel_rfl) (by kernel_rfl) rfl rfl) (fun a W hH => ?_) ?_
                · have e0 := Flow.see_new 77 4 hH.sees (by kernel_rfl) (by kernel_rfl) rfl rfl
                  go_simp; first | done | rfl | (rw [IntWalk.i64_in _ (by omega)]; first | done | rfl | omega | (simp; done))
                refine Flow.pass_val (.pointer (some ⟨g, (aa - 1), none⟩)) (Flow.met_some 2 true 75 rfl rfl (by kernel_rfl) (by kernel_rfl) rfl rfl) (fun a W hH => ?_) ?_
                · have e0 := Flow.see_new 76 3 hH.sees (by kernel_rfl) (by kernel_rfl) rfl rfl
                  have e1 := Flow.see_new 78 5 hH.sees (by kernel_rfl) (by kernel_rfl) rfl rfl
                  exact s_ixS (s := 1) ((aa - 1)) _ rfl Try.underlying72 (by kernel_rfl) (by first | exact e0 | simpa [Act.eval] using e0 | (simp [Act.eval])) (by first | exact e1 | simpa [Act.eval] using e1 | (simp [Act.eval])) (by omega) (by omega) (by omega)
                refine Flow.pass_val (.int .u64 ((d2[(aa - 1)]! : Nat) : Int)) (Flow.met_some 2 true 75 rfl rfl (by kernel_rfl) (by kernel_rfl) rfl rfl) (fun a W hH => ?_) ?_
                · have e0 := Flow.see_new 79 6 hH.sees (by kernel_rfl) (by kernel_rfl) rfl rfl
                  have cc := nr_cell (hN_W3.below ((Below.refl W3.heap.size W3).drew.trans hH.below) hN_W3.lt) ((aa - 1)) (by omega); go_simp; first | done | rfl
                refine Flow.pass_old (X := .slice (some ⟨g, 0, none⟩) n cap) 0 (Flow.met_some 2 true 75 rfl rfl (by kernel_rfl) (by kernel_rfl) rfl rfl) (.inl rfl) (by kernel_rfl) (by kernel_rfl) rfl ?_
                refine Flow.pass_old (X := .int .i64 ((p : Int))) 11 (Flow.met_some 2 true 75 rfl rfl (by kernel_rfl) (by kernel_rfl) rfl rfl) (.inl rfl) (by kernel_rfl) (by kernel_rfl) rfl ?_
                refine Flow.pass_val (.pointer (some ⟨g, p, none⟩)) (Flow.met_some 2 true 75 rfl rfl (by kernel_rfl) (by kernel_rfl) rfl rfl) (fun a W hH => ?_) ?_
                · have e0 := Flow.see_new 81 8 hH.sees (by kernel_rfl) (by kernel_rfl) rfl rfl
                  have e1 := Flow.see_new 82 9 hH.sees (by kernel_rfl) (by kernel_rfl) rfl rfl
                  exact s_ixS (s := 1) (p) _ rfl Try.underlying72 (by kernel_rfl) (by first | exact e0 | simpa [Act.eval] using e0 | (simp [Act.eval])) (by first | exact e1 | simpa [Act.eval] using e1 | (simp [Act.eval])) (by omega) (by omega) (by omega)
                refine Flow.pass_val (.int .u64 ((d2[p]! : Nat) : Int)) (Flow.met_some 2 true 75 rfl rfl (by kernel_rfl) (by kernel_rfl) rfl rfl) (fun a W hH => ?_) ?_
                · have e0 := Flow.see_new 83 10 hH.sees (by kernel_rfl) (by kernel_rfl) rfl rfl
                  have cc := nr_cell (hN_W3.below ((Below.refl W3.heap.size W3).drew.trans hH.below) hN_W3.lt) (p) (by omega); go_simp; first | done | rfl
                refine Flow.pass_step (Reg.eqs (.bool (ltN (d2[(aa - 1)]!) (d2[p]!)))) (fun _ _ => Flow.kept_eqs _ _) (Flow.met_some 2 true 75 rfl rfl (by kernel_rfl) (by kernel_rfl) rfl rfl) (fun a W hH => ?_) ?_
                · have e0 := Flow.see_new 80 7 hH.sees (by kernel_rfl) (by kernel_rfl) rfl rfl
                  have e1 := Flow.see_new 84 11 hH.sees (by kernel_rfl) (by kernel_rfl) rfl rfl
                  refine Reg.wp_call rfl Try.func77 rfl (by kernel_rfl) (by simp [Act.eval, e0, e1]) (lessN (d2[(aa - 1)]!) (d2[p]!) W) ?_
                  rintro e w' ⟨rfl, rfl⟩
                  exact ⟨_, rfl, _, rfl, Ext.refl _, rfl⟩
                refine Flow.pass_val (.bool (!(ltN (d2[(aa - 1)]!) (d2[p]!)))) (Flow.met_some 2 true 75 rfl rfl (by kernel_rfl) (by kernel_rfl) rfl rfl) (fun a W hH => ?_) ?_
                · have e0 := Flow.see_new 85 12 hH.sees (by kernel_rfl) (by kernel_rfl) rfl rfl
                  go_simp; first | done | rfl
                refine Flow.pass_val (.bool (!(ltN (d2[(aa - 1)]!) (d2[p]!)))) (Flow.met_none rfl) (fun a W hH => ?_) ?_
                · have e0 := Flow.see_new 75 2 hH.sees (by kernel_rfl) (by kernel_rfl) rfl rfl
                  have e1 := Flow.see_new 86 13 hH.sees (by kernel_rfl) (by kernel_rfl) rfl rfl
                  go_simp; first | done | rfl
                refine Flow.pass_end [none, none, none, none, none, none, none, none, none, none, none, none, none, none, none, none, none, none, none, none, none, none, none, none, none, none, none, none, none, none, none, none, none, none, none, none, none, none, none, none, none, none, none, none, none, none, none, none, none, none, none, none, none, none, none, none, none, none, none, none, none, none, none, none, none, none, none, none, none, none, none, none, none, some 73, some 74, some 75, some 76, some 77, some 78, some 79, some 80, some 81, some 82, some 83, some 84, some 85, some 86, some 87, none, none, none, none, none, none, none, none, none, none, none, none, none, none, none, none, none, none, none, none, none, none, none, none, none, none, none, none, none, none, none, none, none, none, none, none, none, none, none, none, none, none, none, none, none, none] (by kernel_rfl) ?_
                intro f gg w9 hB hfa hT hfg
                have h87 : f 87 = _ := (hfg 87 14 (by kernel_rfl)).trans (hT 14 _ (by kernel_rfl) rfl)
                exact hQ1 f w9 ⟨by rw [h87, decide_eq_true hg, Bool.true_and], (Below.refl W3.heap.size W3).drew.trans hB⟩
              · skip
                refine Flow.wp_region_flow (W3.heap.size) [] [] (by kernel_rfl) (by kernel_rfl) (Nat.le_refl _) (fun _ h => by cases h) Flow.facts_nil ?_
                refine Flow.pass_old (X := .int .i64 ((aa : Int))) 1 (Flow.met_none rfl) (.inl rfl) (by kernel_rfl) (by kernel_rfl) rfl ?_
                refine Flow.pass_val (.bool false) (Flow.met_none rfl) (fun a W hH => ?_) ?_
                · have e0 := Flow.see_new 73 0 hH.sees (by kernel_rfl) (by kernel_rfl) rfl rfl
                  go_simp; first | done | rfl | omega | (simp; done) | (simp; omega) | exact decide_eq_true (by omega) | exact decide_eq_false (by omega)
                refine Flow.pass_copy 74 1 (Flow.met_none rfl) (.inl rfl) (by kernel_rfl) (by kernel_rfl) rfl rfl (fun _ _ => Flow.kept_eqs _ _) ?_
                refine Flow.pass_skip (fun a W hH => Flow.not_wanted 2 true 75 hH rfl rfl (by kernel_rfl) (by kernel_rfl) rfl rfl) ?_
                refine Flow.pass_skip (fun a W hH => Flow.not_wanted 2 true 75 hH rfl rfl (by kernel_rfl) (by kernel_rfl) rfl rfl) ?_
                refine Flow.pass_skip (fun a W hH => Flow.not_wanted 2 true 75 hH rfl rfl (by kernel_rfl) (by kernel_rfl) rfl rfl) ?_
                refine Flow.pass_skip (fun a W hH => Flow.not_wanted 2 true 75 hH rfl rfl (by kernel_rfl) (by kernel_rfl) rfl rfl) ?_
                refine Flow.pass_skip (fun a W hH => Flow.not_wanted 2 true 75 hH rfl rfl (by kernel_rfl) (by kernel_rfl) rfl rfl) ?_
                refine Flow.pass_skip (fun a W hH => Flow.not_wanted 2 true 75 hH rfl rfl (by kernel_rfl) (by kernel_rfl) rfl rfl) ?_
                refine Flow.pass_skip (fun a W hH => Flow.not_wanted 2 true 75 hH rfl rfl (by kernel_rfl) (by kernel_rfl) rfl rfl) ?_
                refine Flow.pass_skip (fun a W hH => Flow.not_wanted 2 true 75 hH rfl rfl (by kernel_rfl) (by kernel_rfl) rfl rfl) ?_
                refine Flow.pass_skip (fun a W hH => Flow.not_wanted 2 true 75 hH rfl rfl (by kernel_rfl) (by kernel_rfl) rfl rfl) ?_
                refine Flow.pass_skip (fun a W hH => Flow.not_wanted 2 true 75 hH rfl rfl (by kernel_rfl) (by kernel_rfl) rfl rfl) ?_
                refine Flow.pass_skip (fun a W hH => Flow.not_wanted 2 true 75 hH rfl rfl (by kernel_rfl) (by kernel_rfl) rfl rfl) ?_
                refine Flow.pass_val (.bool false) (Flow.met_none rfl) (fun a W hH => ?_) ?_
                · have e0 := Flow.see_new 75 2 hH.sees (by kernel_rfl) (by kernel_rfl) rfl rfl
                  have e1 := Flow.see_new 86 13 hH.sees (by kernel_rfl) (by kernel_rfl) rfl rfl
                  go_simp; first | done | rfl
                refine Flow.pass_end [none, none, none, none, none, none, none, none, none, none, none, none, none, none, none, none, none, none, none, none, none, none, none, none, none, none, none, none, none, none, none, none, none, none, none, none, none, none, none, none, none, none, none, none, none, none, none, none, none, none, none, none, none, none, none, none, none, none, none, none, none, none, none, none, none, none, none, none, none, none, none, none, none, some 73, some 74, some 75, some 76, some 77, some 78, some 79, some 80, some 81, some 82, some 83, some 84, some 85, some 86, some 87, none, none, none, none, none, none, none, none, none, none, none, none, none, none, none, none, none, none, none, none, none, none, none, none, none, none, none, none, none, none, none, none, none, none, none, none, none, none, none, none, none, none, none, none, none, none] (by kernel_rfl) ?_
                intro f gg w9 hB hfa hT hfg
                have h87 : f 87 = _ := (hfg 87 14 (by kernel_rfl)).trans (hT 14 _ (by kernel_rfl) rfl)
                exact hQ1 f w9 ⟨by rw [h87, decide_eq_false hg, Bool.false_and], (Below.refl W3.heap.size W3).drew.trans hB⟩
            intro f Wt ⟨h87, hBWt⟩
            simp only [Reg.sel, h87]
            have hN_Wt := Blk.below hN_W3 hBWt (Blk.lt hN_W3)
            have hC_Wt := hC_W3.trans (Chg.of_ext hBWt)
            clear h87 hBWt
            cases hq : (decide (0 < aa) && !ltN d2[aa - 1]! d2[p]!) with
            | true =>
              have hq2 : 0 < aa ∧ ltN d2[aa - 1]! d2[p]! = false := by simpa using hq
              obtain ⟨z1, z2, z3⟩ := hI_d2.out.eq hq2.1 hp.1 hp.2 hq2.2
              have hcall := partitionEqual_walk g R d2 n cap aa bb p hI_d2.out.size hp.1 hp.2 hbn hn5 Wt hN_Wt
              generalize Sort.partitionEqual ltN d2 aa bb p = r at *
              obtain ⟨mid, d5⟩ := r
              have z1 : aa < mid := z1
              have z2 : mid ≤ bb := z2
              have z3 : PI mid bb n d5 G := z3
              have z3 := Lib.hid z3
              clear hq hq2
              go_wp2_with fail
              refine Calls.mono hcall ?_
              rintro e W7 ⟨rfl, hN7, hC7⟩
              clear hcall
              go_wp2
              go_roundw
              case rel => first | exact ⟨mid, bb, l1, false, wp, d5, rfl, rfl, rfl, rfl, rfl, by omega, z2, hbn, by omega, hl12, z3, hN7, hC_Wt.trans hC7⟩ | ((repeat apply Exists.intro); refine ⟨?_, rfl⟩; exact ⟨mid, bb, l1, false, wp, d5, rfl, rfl, rfl, rfl, rfl, by omega, z2, hbn, by omega, hl12, z3, hN7, hC_Wt.trans hC7⟩)
              case measure => first | (simp [intOf]; done) | (simp [intOf]; omega) | (simp only [intOf]; omega)
            | false =>
              obtain ⟨z1, z2, z3, z4, z5, z6, z7⟩ := hI_d2.out.part hp.1 hp.2
              have hcall := partition_walk g R d2 n cap aa bb p hI_d2.out.size hp.1 hp.2 hbn hn5 Wt hN_Wt
              generalize Sort.partition ltN d2 aa bb p = r at *
              obtain ⟨mid, ap, d5⟩ := r
              have z1 : aa ≤ mid := z1
              have z2 : mid < bb := z2
              have z3 : Sort.Below ltN aa mid d5 := z3
              have z4 : Sort.Below ltN (mid + 1) bb d5 := z4
              have z5 : d5.size = n := z5
              have z6 : ∀ L, Sort.PermIn aa mid d5 L → Sort.SortedIn ltN aa mid L → PI (mid + 1) bb n L G := z6
              have z7 : ∀ L, Sort.PermIn (mid + 1) bb d5 L → Sort.SortedIn ltN (mid + 1) bb L → PI aa mid n L G := z7
              have z6 := Lib.hid z6
              have z7 := Lib.hid z7
              have z3 := Lib.hid z3
              have z4 := Lib.hid z4
              clear hq
              go_wp2_with fail
              refine Calls.mono hcall ?_
              rintro e W7 ⟨rfl, hN7, hC7⟩
              have hC_W7 := hC_Wt.trans hC7
              have q1 : IntKind.i64.wrap ((mid : Int) - (aa : Int)) = (mid : Int) - (aa : Int) := IntWalk.i64_in _ (by omega)
              have q2 : IntKind.i64.wrap ((bb : Int) - (mid : Int)) = (bb : Int) - (mid : Int) := IntWalk.i64_in _ (by omega)
              have q3 : IntKind.i64.wrap ((mid : Int) + 1) = ((mid + 1 : Nat) : Int) := by rw [IntWalk.i64_in _ (by omega)]; omega
              clear hcall hC7 hC_Wt
              by_cases hlr : mid - aa < bb - mid
              · have hlri : (mid : Int) - (aa : Int) < (bb : Int) - (mid : Int) := by omega
                have hrec := ih (mid - aa) (by omega) d5 aa mid l1 W7 rfl z5 z1 (by omega) hl12 z3.out hN7
                go_wp2_with fail
                refine Calls.mono hrec ?_
                rintro e W8 ⟨rfl, d6, ⟨hp6, hs6⟩, hN8, hC8⟩
                have hI6 := Lib.hid (z6.out d6 hp6 hs6)
                clear hrec hp6 hs6
                go_wp2
                go_roundw
                case rel => first | exact ⟨mid + 1, bb, l1, _, ap, d6, by go_num, rfl, rfl, rfl, rfl, by omega, by omega, hbn, by omega, hl12, hI6, hN8, hC_W7.trans hC8⟩ | ((repeat apply Exists.intro); refine ⟨?_, rfl⟩; exact ⟨mid + 1, bb, l1, _, ap, d6, by go_num, rfl, rfl, rfl, rfl, by omega, by omega, hbn, by omega, hl12, hI6, hN8, hC_W7.trans hC8⟩)
                case measure => first | (simp [intOf]; done) | (simp [intOf]; omega) | (simp only [intOf]; omega)
              · have hlri : ¬ (mid : Int) - (aa : Int) < (bb : Int) - (mid : Int) := by omega
                have hrec := ih (bb - (mid + 1)) (by omega) d5 (mid + 1) bb l1 W7 rfl z5 (by omega) hbn hl12 z4.out hN7
                go_wp2_with fail
                refine Calls.mono hrec ?_
                rintro e W8 ⟨rfl, d6, ⟨hp6, hs6⟩, hN8, hC8⟩
                have hI6 := Lib.hid (z7.out d6 hp6 hs6)
                clear hrec hp6 hs6
                go_wp2
                go_roundw
                case rel => first | exact ⟨aa, mid, l1, _, ap, d6, rfl, rfl, rfl, rfl, rfl, hla, z1, by omega, by omega, hl12, hI6, hN8, hC_W7.trans hC8⟩ | ((repeat apply Exists.intro); refine ⟨?_, rfl⟩; exact ⟨aa, mid, l1, _, ap, d6, rfl, rfl, rfl, rfl, rfl, hla, z1, by omega, by omega, hl12, hI6, hN8, hC_W7.trans hC8⟩)
                case measure => first | (simp [intOf]; done) | (simp [intOf]; omega) | (simp only [intOf]; omega)
          · skip
            have hcall := reverseRange_walk g R d2 n cap aa bb hI_d2.out.size (by omega) hbn hn5 W3 hN_W3
            obtain ⟨p2, hp2e⟩ : ∃ q, bb - 1 - (p - aa) = q := ⟨_, rfl⟩
            have hp2 : aa ≤ p2 ∧ p2 < bb := by omega
            have u1 : IntKind.i64.wrap ((bb : Int) - 1) = (bb : Int) - 1 := IntWalk.i64_in _ (by omega)
            have u2 : IntKind.i64.wrap ((p : Int) - (aa : Int)) = (p : Int) - (aa : Int) := IntWalk.i64_in _ (by omega)
            have u3 : IntKind.i64.wrap ((bb : Int) - 1 - ((p : Int) - (aa : Int))) = (p2 : Int) := by rw [IntWalk.i64_in _ (by omega)]; omega
            clear hp2e
            go_wp2_with fail
            refine Calls.mono hcall ?_
            rintro e W5 ⟨rfl, d3, hpm, hN_W5, hC5⟩
            have hC_W5 := hC_W3.trans hC5
            have hI_d3 := Lib.hid (hI_d2.out.perm hpm)
            clear hcall hC5 hpm hN_W3 hC_W3
            go_wp2_with fail
            have hs_d3 : d3.size = n := hI_d3.out.size
            refine s_cut [none, none, none, none, none, none, none, none, none, none, none, none, none, none, none, none, none, none, none, none, none, none, none, none, none, none, none, none, none, none, none, none, none, none, none, none, none, none, none, none, none, none, none, none, none, none, none, none, none, none, none, none, none, none, none, none, none, none, none, none, none, none, none, none, none, none, none, none, none, none, none, none, none, some 73, some 74, some 75, some 76, some 77, some 78, some 79, some 80, some 81, some 82, some 83, some 84, some 85, some 86, some 87, none, none, none, none, none, none, none, none, none, none, none, none, none, none, none, none, none, none, none, none, none, none, none, none, none, none, none, none, none, none, none, none, none, none, none, none, none, none, none, none, none, none, none, none, none, none] (fun f W => f 87 = .bool (decide (0 < aa) && !ltN d3[aa - 1]! d3[p2]!) ∧ Below W5.heap.size W5 W) (fun Q1 hQ1 => ?_) ?_
            · by_cases hg : 0 < aa
              · skip
                refine Flow.wp_region_flow (W5.heap.size) [] [] (by kernel_rfl) (by kernel_rfl) (Nat.le_refl _) (fun _ h => by cases h) Flow.facts_nil ?_
                refine Flow.pass_old (X := .int .i64 ((aa : Int))) 1 (Flow.met_none rfl) (.inl rfl) (by kernel_rfl) (by kernel_rfl) rfl ?_
                refine Flow.pass_val (.bool true) (Flow.met_none rfl) (fun a W hH => ?_) ?_
                · have e0 := Flow.see_new 73 0 hH.sees (by kernel_rfl) (by kernel_rfl) rfl rfl
                  go_simp; first | done | rfl | omega | (simp; done) | (simp; omega) | exact decide_eq_true (by omega) | exact decide_eq_false (by omega)
                refine Flow.pass_copy 74 1 (Flow.met_none rfl) (.inl rfl) (by kernel_rfl) (by kernel_rfl) rfl rfl (fun _ _ => Flow.kept_eqs _ _) ?_
                refine Flow.pass_old (X := .slice (some ⟨g, 0, none⟩) n cap) 0 (Flow.met_some 2 true 75 rfl rfl (by kernel_rfl) (by kernel_rfl) rfl rfl) (.inl rfl) (by kernel_rfl) (by kernel_rfl) rfl ?_
                refine Flow.pass_old (X := .int .i64 ((aa : Int))) 1 (Flow.met_some 2 true 75 rfl rfl (by kernel_rfl) (by kernel_rfl) rfl rfl) (.inl rfl) (by kernel_rfl) (by kernel_rfl) rfl ?_
                refine Flow.pass_val (.int .i64 ((aa : Int) - 1)) (Flow.met_some 2 true 75 rfl rfl (by kernel_rfl) (by kernel_rfl) rfl rfl) (fun a W hH => ?_) ?_
                · have e0 := Flow.see_new 77 4 hH.sees (by kernel_rfl) (by kernel_rfl) rfl rfl
                  go_simp; first | done | rfl | (rw [IntWalk.i64_in _ (by omega)]; first | done | rfl | omega | (simp; done))
                refine Flow.pass_val (.pointer (some ⟨g, (aa - 1), none⟩)) (Flow.met_some 2 true 75 rfl rfl (by kernel_rfl) (by kernel_rfl) rfl rfl) (fun a W hH => ?_) ?_
                · have e0 := Flow.see_new 76 3 hH.sees (by kernel_rfl) (by kernel_rfl) rfl rfl
                  have e1 := Flow.see_new 78 5 hH.sees (by kernel_rfl) (by kernel_rfl) rfl rfl
                  exact s_ixS (s := 1) ((aa - 1)) _ rfl Try.underlying72 (by kernel_rfl) (by first | exact e0 | simpa [Act.eval] using e0 | (simp [Act.eval])) (by first | exact e1 | simpa [Act.eval] using e1 | (simp [Act.eval])) (by omega) (by omega) (by omega)
                refine Flow.pass_val (.int .u64 ((d3[(aa - 1)]! : Nat) : Int)) (Flow.met_some 2 true 75 rfl rfl (by kernel_rfl) (by kernel_rfl) rfl rfl) (fun a W hH => ?_) ?_
                · have e0 := Flow.see_new 79 6 hH.sees (by kernel_rfl) (by kernel_rfl) rfl rfl
                  have cc := nr_cell (hN_W5.below ((Below.refl W5.heap.size W5).drew.trans hH.below) hN_W5.lt) ((aa - 1)) (by omega); go_simp; first | done | rfl
                refine Flow.pass_old (X := .slice (some ⟨g, 0, none⟩) n cap) 0 (Flow.met_some 2 true 75 rfl rfl (by kernel_rfl) (by kernel_rfl) rfl rfl) (.inl rfl) (by kernel_rfl) (by kernel_rfl) rfl ?_
                refine Flow.pass_old (X := .int .i64 ((p2 : Int))) 11 (Flow.met_some 2 true 75 rfl rfl (by kernel_rfl) (by kernel_rfl) rfl rfl) (.inl rfl) (by kernel_rfl) (by kernel_rfl) rfl ?_
                refine Flow.pass_val (.pointer (some ⟨g, p2, none⟩)) (Flow.met_some 2 true 75 rfl rfl (by kernel_rfl) (by kernel_rfl) rfl rfl) (fun a W hH => ?_) ?_
                · have e0 := Flow.see_new 81 8 hH.sees (by kernel_rfl) (by kernel_rfl) rfl rfl
                  have e1 := Flow.see_new 82 9 hH.sees (by kernel_rfl) (by kernel_rfl) rfl rfl
                  exact s_ixS (s := 1) (p2) _ rfl Try.underlying72 (by kernel_rfl) (by first | exact e0 | simpa [Act.eval] using e0 | (simp [Act.eval])) (by first | exact e1 | simpa [Act.eval] using e1 | (simp [Act.eval])) (by omega) (by omega) (by omega)
                refine Flow.pass_val (.int .u64 ((d3[p2]! : Nat) : Int)) (Flow.met_some 2 true 75 rfl rfl (by kernel_rfl) (by kernel_rfl) rfl rfl) (fun a W hH => ?_) ?_
                · have e0 := Flow.see_new 83 10 hH.sees (by kernel_rfl) (by kernel_rfl) rfl rfl
                  have cc := nr_cell (hN_W5.below ((Below.refl W5.heap.size W5).drew.trans hH.below) hN_W5.lt) (p2) (by omega); go_simp; first | done | rfl
                refine Flow.pass_step (Reg.eqs (.bool (ltN (d3[(aa - 1)]!) (d3[p2]!)))) (fun _ _ => Flow.kept_eqs _ _) (Flow.met_some 2 true 75 rfl rfl (by kernel_rfl) (by kernel_rfl) rfl rfl) (fun a W hH => ?_) ?_
                · have e0 := Flow.see_new 80 7 hH.sees (by kernel_rfl) (by kernel_rfl) rfl rfl
                  have e1 := Flow.see_new 84 11 hH.sees (by kernel_rfl) (by kernel_rfl) rfl rfl
                  refine Reg.wp_call rfl Try.func77 rfl (by kernel_rfl) (by simp [Act.eval, e0, e1]) (lessN (d3[(aa - 1)]!) (d3[p2]!) W) ?_
                  rintro e w' ⟨rfl, rfl⟩
                  exact ⟨_, rfl, _, rfl, Ext.refl _, rfl⟩
                refine Flow.pass_val (.bool (!(ltN (d3[(aa - 1)]!) (d3[p2]!)))) (Flow.met_some 2 true 75 rfl rfl (by kernel_rfl) (by kernel_rfl) rfl rfl) (fun a W hH => ?_) ?_
                · have e0 := Flow.see_new 85 12 hH.sees (by kernel_rfl) (by kernel_rfl) rfl rfl
                  go_simp; first | done | rfl
                refine Flow.pass_val (.bool (!(ltN (d3[(aa - 1)]!) (d3[p2]!)))) (Flow.met_none rfl) (fun a W hH => ?_) ?_
                · have e0 := Flow.see_new 75 2 hH.sees (by kernel_rfl) (by kernel_rfl) rfl rfl
                  have e1 := Flow.see_new 86 13 hH.sees (by kernel_rfl) (by kernel_rfl) rfl rfl
                  go_simp; first | done | rfl
                refine Flow.pass_end [none, none, none, none, none, none, none, none, none, none, none, none, none, none, none, none, none, none, none, none, none, none, none, none, none, none, none, none, none, none, none, none, none, none, none, none, none, none, none, none, none, none, none, none, none, none, none, none, none, none, none, none, none, none, none, none, none, none, none, none, none, none, none, none, none, none, none, none, none, none, none, none, none, some 73, some 74, some 75, some 76, some 77, some 78, some 79, some 80, some 81, some 82, some 83, some 84, some 85, some 86, some 87, none, none, none, none, none, none, none, none, none, none, none, none, none, none, none, none, none, none, none, none, none, none, none, none, none, none, none, none, none, none, none, none, none, none, none, none, none, none, none, none, none, none, none, none, none, none] (by kernel_rfl) ?_
                intro f gg w9 hB hfa hT hfg
                have h87 : f 87 = _ := (hfg 87 14 (by kernel_rfl)).trans (hT 14 _ (by kernel_rfl) rfl)
                exact hQ1 f w9 ⟨by rw [h87, decide_eq_true hg, Bool.true_and], (Below.refl W5.heap.size W5).drew.trans hB⟩
              · skip
                refine Flow.wp_region_flow (W5.heap.size) [] [] (by kernel_rfl) (by kernel_rfl) (Nat.le_refl _) (fun _ h => by cases h) Flow.facts_nil ?_
                refine Flow.pass_old (X := .int .i64 ((aa : Int))) 1 (Flow.met_none rfl) (.inl rfl) (by kernel_rfl) (by kernel_rfl) rfl ?_
                refine Flow.pass_val (.bool false) (Flow.met_none rfl) (fun a W hH => ?_) ?_
                · have e0 := Flow.see_new 73 0 hH.sees (by kernel_rfl) (by kernel_rfl) rfl rfl
                  go_simp; first | done | rfl | omega | (simp; done) | (simp; omega) | exact decide_eq_true (by omega) | exact decide_eq_false (by omega)
                refine Flow.pass_copy 74 1 (Flow.met_none rfl) (.inl rfl) (by kernel_rfl) (by kernel_rfl) rfl rfl (fun _ _ => Flow.kept_eqs _ _) ?_
                refine Flow.pass_skip (fun a W hH => Flow.not_wanted 2 true 75 hH rfl rfl (by kernel_rfl) (by kernel_rfl) rfl rfl) ?_
                refine Flow.pass_skip (fun a W hH => Flow.not_wanted 2 true 75 hH rfl rfl (by kernel_rfl) (by kernel_rfl) rfl rfl) ?_
                refine Flow.pass_skip (fun a W hH => Flow.not_wanted 2 true 75 hH rfl rfl (by kernel_rfl) (by kernel_rfl) rfl rfl) ?_
                refine Flow.pass_skip (fun a W hH => Flow.not_wanted 2 true 75 hH rfl rfl (by kernel_rfl) (by kernel_rfl) rfl rfl) ?_
                refine Flow.pass_skip (fun a W hH => Flow.not_wanted 2 true 75 hH rfl rfl (by kernel_rfl) (by kernel_rfl) rfl rfl) ?_
                refine Flow.pass_skip (fun a W hH => Flow.not_wanted 2 true 75 hH rfl rfl (by kernel_rfl) (by kernel_rfl) rfl rfl) ?_
                refine Flow.pass_skip (fun a W hH => Flow.not_wanted 2 true 75 hH rfl rfl (by kernel_rfl) (by kernel_rfl) rfl rfl) ?_
                refine Flow.pass_skip (fun a W hH => Flow.not_wanted 2 true 75 hH rfl rfl (by kernel_rfl) (by kernel_rfl) rfl rfl) ?_
                refine Flow.pass_skip (fun a W hH => Flow.not_wanted 2 true 75 hH rfl rfl (by kernel_rfl) (by kernel_rfl) rfl rfl) ?_
                refine Flow.pass_skip (fun a W hH => Flow.not_wanted 2 true 75 hH rfl rfl (by kernel_rfl) (by kernel_rfl) rfl rfl) ?_
                refine Flow.pass_skip (fun a W hH => Flow.not_wanted 2 true 75 hH rfl rfl (by kernel_rfl) (by kernel_rfl) rfl rfl) ?_
                refine Flow.pass_val (.bool false) (Flow.met_none rfl) (fun a W hH => ?_) ?_
                · have e0 := Flow.see_new 75 2 hH.sees (by kernel_rfl) (by kernel_rfl) rfl rfl
                  have e1 := Flow.see_new 86 13 hH.sees (by kernel_rfl) (by kernel_rfl) rfl rfl
                  go_simp; first | done | rfl
                refine Flow.pass_end [none, none, none, none, none, none, none, none, none, none, none, none, none, none, none, none, none, none, none, none, none, none, none, none, none, none, none, none, none, none, none, none, none, none, none, none, none, none, none, none, none, none, none, none, none, none, none, none, none, none, none, none, none, none, none, none, none, none, none, none, none, none, none, none, none, none, none, none, none, none, none, none, none, some 73, some 74, some 75, some 76, some 77, some 78, some 79, some 80, some 81, some 82, some 83, some 84, some 85, some 86, some 87, none, none, none, none, none, none, none, none, none, none, none, none, none, none, none, none, none, none, none, none, none, none, none, none, none, none, none, none, none, none, none, none, none, none, none, none, none, none, none, none, none, none, none, none, none, none] (by kernel_rfl) ?_
                intro f gg w9 hB hfa hT hfg
                have h87 : f 87 = _ := (hfg 87 14 (by kernel_rfl)).trans (hT 14 _ (by kernel_rfl) rfl)
                exact hQ1 f w9 ⟨by rw [h87, decide_eq_false hg, Bool.false_and], (Below.refl W5.heap.size W5).drew.trans hB⟩
            intro f Wt ⟨h87, hBWt⟩
            simp only [Reg.sel, h87]
            have hN_Wt := Blk.below hN_W5 hBWt (Blk.lt hN_W5)
            have hC_Wt := hC_W5.trans (Chg.of_ext hBWt)
            clear h87 hBWt
            cases hq : (decide (0 < aa) && !ltN d3[aa - 1]! d3[p2]!) with
            | true =>
              have hq2 : 0 < aa ∧ ltN d3[aa - 1]! d3[p2]! = false := by simpa using hq
              obtain ⟨z1, z2, z3⟩ := hI_d3.out.eq hq2.1 hp2.1 hp2.2 hq2.2
              have hcall := partitionEqual_walk g R d3 n cap aa bb p2 hI_d3.out.size hp2.1 hp2.2 hbn hn5 Wt hN_Wt
              generalize Sort.partitionEqual ltN d3 aa bb p2 = r at *
              obtain ⟨mid, d5⟩ := r
              have z1 : aa < mid := z1
              have z2 : mid ≤ bb := z2
              have z3 : PI mid bb n d5 G := z3
              have z3 := Lib.hid z3
              clear hq hq2
              go_wp2_with fail
              refine Calls.mono hcall ?_
              rintro e W7 ⟨rfl, hN7, hC7⟩
              clear hcall
              go_wp2
              go_roundw
              case rel => first | exact ⟨mid, bb, l1, false, wp, d5, rfl, rfl, rfl, rfl, rfl, by omega, z2, hbn, by omega, hl12, z3, hN7, hC_Wt.trans hC7⟩ | ((repeat apply Exists.intro); refine ⟨?_, rfl⟩; exact ⟨mid, bb, l1, false, wp, d5, rfl, rfl, rfl, rfl, rfl, by omega, z2, hbn, by omega, hl12, z3, hN7, hC_Wt.trans hC7⟩)
              case measure => first | (simp [intOf]; done) | (simp [intOf]; omega) | (simp only [intOf]; omega)
            | false =>
              obtain ⟨z1, z2, z3, z4, z5, z6, z7⟩ := hI_d3.out.part hp2.1 hp2.2
              have hcall := partition_walk g R d3 n cap aa bb p2 hI_d3.out.size hp2.1 hp2.2 hbn hn5 Wt hN_Wt
              generalize Sort.partition ltN d3 aa bb p2 = r at *
              obtain ⟨mid, ap, d5⟩ := r
              have z1 : aa ≤ mid := z1
              have z2 : mid < bb := z2
              have z3 : Sort.Below ltN aa mid d5 := z3
              have z4 : Sort.Below ltN (mid + 1) bb d5 := z4
              have z5 : d5.size = n := z5
              have z6 : ∀ L, Sort.PermIn aa mid d5 L → Sort.SortedIn ltN aa mid L → PI (mid + 1) bb n L G := z6
              have z7 : ∀ L, Sort.PermIn (mid + 1) bb d5 L → Sort.SortedIn ltN (mid + 1) bb L → PI aa mid n L G := z7
              have z6 := Lib.hid z6
              have z7 := Lib.hid z7
              have z3 := Lib.hid z3
              have z4 := Lib.hid z4
              clear hq
              go_wp2_with fail
              refine Calls.mono hcall ?_
              rintro e W7 ⟨rfl, hN7, hC7⟩
              have hC_W7 := hC_Wt.trans hC7
              have q1 : IntKind.i64.wrap ((mid : Int) - (aa : Int)) = (mid : Int) - (aa : Int) := IntWalk.i64_in _ (by omega)
              have q2 : IntKind.i64.wrap ((bb : Int) - (mid : Int)) = (bb : Int) - (mid : Int) := IntWalk.i64_in _ (by omega)
              have q3 : IntKind.i64.wrap ((mid : Int) + 1) = ((mid + 1 : Nat) : Int) := by rw [IntWalk.i64_in _ (by omega)]; omega
              clear hcall hC7 hC_Wt
              by_cases hlr : mid - aa < bb - mid
              · have hlri : (mid : Int) - (aa : Int) < (bb : Int) - (mid : Int) := by omega
                have hrec := ih (mid - aa) (by omega) d5 aa mid l1 W7 rfl z5 z1 (by omega) hl12 z3.out hN7
                go_wp2_with fail
                refine Calls.mono hrec ?_
                rintro e W8 ⟨rfl, d6, ⟨hp6, hs6⟩, hN8, hC8⟩
                have hI6 := Lib.hid (z6.out d6 hp6 hs6)
                clear hrec hp6 hs6
                go_wp2
                go_roundw
                case rel => first | exact ⟨mid + 1, bb, l1, _, ap, d6, by go_num, rfl, rfl, rfl, rfl, by omega, by omega, hbn, by omega, hl12, hI6, hN8, hC_W7.trans hC8⟩ | ((repeat apply Exists.intro); refine ⟨?_, rfl⟩; exact ⟨mid + 1, bb, l1, _, ap, d6, by go_num, rfl, rfl, rfl, rfl, by omega, by omega, hbn, by omega, hl12, hI6, hN8, hC_W7.trans hC8⟩)
                case measure => first | (simp [intOf]; done) | (simp [intOf]; omega) | (simp only [intOf]; omega)
              · have hlri : ¬ (mid : Int) - (aa : Int) < (bb : Int) - (mid : Int) := by omega
                have hrec := ih (bb - (mid + 1)) (by omega) d5 (mid + 1) bb l1 W7 rfl z5 (by omega) hbn hl12 z4.out hN7
                go_wp2_with fail
                refine Calls.mono hrec ?_
                rintro e W8 ⟨rfl, d6, ⟨hp6, hs6⟩, hN8, hC8⟩
                have hI6 := Lib.hid (z7.out d6 hp6 hs6)
                clear hrec hp6 hs6
                go_wp2
                go_roundw
                case rel => first | exact ⟨aa, mid, l1, _, ap, d6, rfl, rfl, rfl, rfl, rfl, hla, z1, by omega, by omega, hl12, hI6, hN8, hC_W7.trans hC8⟩ | ((repeat apply Exists.intro); refine ⟨?_, rfl⟩; exact ⟨aa, mid, l1, _, ap, d6, rfl, rfl, rfl, rfl, rfl, hla, z1, by omega, by omega, hl12, hI6, hN8, hC_W7.trans hC8⟩)
                case measure => first | (simp [intOf]; done) | (simp [intOf]; omega) | (simp only [intOf]; omega)
        | true =>
          cases wp with
          | false =>
            have hcall := choosePivot_walk g R d1 n cap aa bb hI_d1.out.size (by omega) hbn hn5 wr hN_wr
            go_wp2_with fail
            refine Calls.mono hcall ?_
            rintro e W3 ⟨p, hint, hp, hh, rfl, hN_W3, hB3⟩
            have hC_W3 : Chg (OnlyG g) w W3 := hC_wr.trans (Chg.of_ext hB3)
            clear hcall hB3
            rcases hh with rfl | rfl | rfl
            · skip
              go_wp2_with fail
              have hs_d1 : d1.size = n := hI_d1.out.size
              refine s_cut [none, none, none, none, none, none, none, none, none, none, none, none, none, none, none, none, none, none, none, none, none, none, none, none, none, none, none, none, none, none, none, none, none, none, none, none, none, none, none, none, none, none, none, none, none, none, none, none, none, none, none, none, none, none, none, none, none, none, none, none, none, none, none, none, none, none, none, none, none, none, none, none, none, some 73, some 74, some 75, some 76, some 77, some 78, some 79, some 80, some 81, some 82, some 83, some 84, some 85, some 86, some 87, none, none, none, none, none, none, none, none, none, none, none, none, none, none, none, none, none, none, none, none, none, none, none, none, none, none, none, none, none, none, none, none, none, none, none, none, none, none, none, none, none, none, none, none, none, none] (fun f W => f 87 = .bool (decide (0 < aa) && !ltN d1[aa - 1]! d1[p]!) ∧ Below W3.heap.size W3 W) (fun Q1 hQ1 => ?_) ?_
              · by_cases hg : 0 < aa
                · skip
                  refine Flow.wp_region_flow (W3.heap.size) [] [] (by kernel_rfl) (by kernel_rfl) (Nat.le_refl _) (fun _ h => by cases h) Flow.facts_nil ?_
                  refine Flow.pass_old (X := .int .i64 ((aa : Int))) 1 (Flow.met_none rfl) (.inl rfl) (by kernel_rfl) (by kernel_rfl) rfl ?_
                  refine Flow.pass_val (.bool true) (Flow.met_none rfl) (fun a W hH => ?_) ?_
                  · have e0 := Flow.see_new 73 0 hH.sees (by kernel_rfl) (by kernel_rfl) rfl rfl
                    go_simp; first | done | rfl | omega | (simp; done) | (simp; omega) | exact decide_eq_true (by omega) | exact decide_eq_false (by omega)
                  refine Flow.pass_copy 74 1 (Flow.met_none rfl) (.inl rfl) (by kernel_rfl) (by kernel_rfl) rfl rfl (fun _ _ => Flow.kept_eqs _ _) ?_
                  refine Flow.pass_old (X := .slice (some ⟨g, 0, none⟩) n cap) 0 (Flow.met_some 2 true 75 rfl rfl (by kernel_rfl) (by kernel_rfl) rfl rfl) (.inl rfl) (by kernel_rfl) (by kernel_rfl) rfl ?_
                  refine Flow.pass_old (X := .int .i64 ((aa : Int))) 1 (Flow.met_some 2 true 75 rfl rfl (by kernel_rfl) (by kernel_rfl) rfl rfl) (.inl rfl) (by kernel_rfl) (by kernel_rfl) rfl ?_
                  refine Flow.pass_val (.int .i64 ((aa : Int) - 1)) (Flow.met_some 2 true 75 rfl rfl (by kernel_rfl) (by kernel_rfl) rfl rfl) (fun a W hH => ?_) ?_
                  · have e0 := Flow.see_new 77 4 hH.sees (by kernel_rfl) (by kernel_rfl) rfl rfl
                    go_simp; first | done | rfl | (rw [IntWalk.i64_in _ (by omega)]; first | done | rfl | omega | (simp; done))
                  refine Flow.pass_val (.pointer (some ⟨g, (aa - 1), none⟩)) (Flow.met_some 2 true 75 rfl rfl (by kernel_rfl) (by kernel_rfl) rfl rfl) (fun a W hH => ?_) ?_
                  · have e0 := Flow.see_new 76 3 hH.sees (by kernel_rfl) (by kernel_rfl) rfl rfl
                    have e1 := Flow.see_new 78 5 hH.sees (by kernel_rfl) (by kernel_rfl) rfl rfl
                    exact s_ixS (s := 1) ((aa - 1)) _ rfl Try.underlying72 (by kernel_rfl) (by first | exact e0 | simpa [Act.eval] using e0 | (simp [Act.eval])) (by first | exact e1 | simpa [Act.eval] using e1 | (simp [Act.eval])) (by omega) (by omega) (by omega)
                  refine Flow.pass_val (.int .u64 ((d1[(aa - 1)]! : Nat) : Int)) (Flow.met_some 2 true 75 rfl rfl (by kernel_rfl) (by kernel_rfl) rfl rfl) (fun a W hH => ?_) ?_
                  · have e0 := Flow.see_new 79 6 hH.sees (by kernel_rfl) (by kernel_rfl) rfl rfl
                    have cc := nr_cell (hN_W3.below ((Below.refl W3.heap.size W3).drew.trans hH.below) hN_W3.lt) ((aa - 1)) (by omega); go_simp; first | done | rfl
                  refine Flow.pass_old (X := .slice (some ⟨g, 0, none⟩) n cap) 0 (Flow.met_some 2 true 75 rfl rfl (by kernel_rfl) (by kernel_rfl) rfl rfl) (.inl rfl) (by kernel_rfl) (by kernel_rfl) rfl ?_
                  refine Flow.pass_old (X := .int .i64 ((p : Int))) 11 (Flow.met_some 2 true 75 rfl rfl (by kernel_rfl) (by kernel_rfl) rfl rfl) (.inl rfl) (by kernel_rfl) (by kernel_rfl) rfl ?_
                  refine Flow.pass_val (.pointer (some ⟨g, p, none⟩)) (Flow.met_some 2 true 75 rfl rfl (by kernel_rfl) (by kernel_rfl) rfl rfl) (fun a W hH => ?_) ?_
                  · have e0 := Flow.see_new 81 8 hH.sees (by kernel_rfl) (by kernel_rfl) rfl rfl
                    have e1 := Flow.see_new 82 9 hH.sees (by kernel_rfl) (by kernel_rfl) rfl rfl
                    exact s_ixS (s := 1) (p) _ rfl Try.underlying72 (by kernel_rfl) (by first | exact e0 | simpa [Act.eval] using e0 | (simp [Act.eval])) (by first | exact e1 | simpa [Act.eval] using e1 | (simp [Act.eval])) (by omega) (by omega) (by omega)
                  refine Flow.pass_val (.int .u64 ((d1[p]! : Nat) : Int)) (Flow.met_some 2 true 75 rfl rfl (by kernel_rfl) (by kernel_rfl) rfl rfl) (fun a W hH => ?_) ?_
                  · have e0 := Flow.see_new 83 10 hH.sees (by kernel_rfl) (by kernel_rfl) rfl rfl
                    have cc := nr_cell (hN_W3.below ((Below.refl W3.heap.size W3).drew.trans hH.below) hN_W3.lt) (p) (by omega); go_simp; first | done | rfl
                  refine Flow.pass_step (Reg.eqs (.bool (ltN (d1[(aa - 1)]!) (d1[p]!)))) (fun _ _ => Flow.kept_eqs _ _) (Flow.met_some 2 true 75 rfl rfl (by kernel_rfl) (by kernel_rfl) rfl rfl) (fun a W hH => ?_) ?_
                  · have e0 := Flow.see_new 80 7 hH.sees (by kernel_rfl) (by kernel_rfl) rfl rfl
                    have e1 := Flow.see_new 84 11 hH.sees (by kernel_rfl) (by kernel_rfl) rfl rfl
                    refine Reg.wp_call rfl Try.func77 rfl (by kernel_rfl) (by simp [Act.eval, e0, e1]) (lessN (d1[(aa - 1)]!) (d1[p]!) W) ?_
                    rintro e w' ⟨rfl, rfl⟩
                    exact ⟨_, rfl, _, rfl, Ext.refl _, rfl⟩
                  refine Flow.pass_val (.bool (!(ltN (d1[(aa - 1)]!) (d1[p]!)))) (Flow.met_some 2 true 75 rfl rfl (by kernel_rfl) (by kernel_rfl) rfl rfl) (fun a W hH => ?_) ?_
                  · have e0 := Flow.see_new 85 12 hH.sees (by kernel_rfl) (by kernel_rfl) rfl rfl
                    go_simp; first | done | rfl
                  refine Flow.pass_val (.bool (!(ltN (d1[(aa - 1)]!) (d1[p]!)))) (Flow.met_none rfl) (fun a W hH => ?_) ?_
                  · have e0 := Flow.see_new 75 2 hH.sees (by kernel_rfl) (by kernel_rfl) rfl rfl
                    have e1 := Flow.see_new 86 13 hH.sees (by kernel_rfl) (by kernel_rfl) rfl rfl
                    go_simp; first | done | rfl
                  refine Flow.pass_end [none, none, none, none, none, none, none, none, none, none, none, none, none, none, none, none, none, none, none, none, none, none, none, none, none, none, none, none, none, none, none, none, none, none, none, none, none, none, none, none, none, none, none, none, none, none, none, none, none, none, none, none, none, none, none, none, none, none, none, none, none, none, none, none, none, none, none, none, none, none, none, none, none, some 73, some 74, some 75, some 76, some 77, some 78, some 79, some 80, some 81, some 82, some 83, some 84, some 85, some 86, some 87, none, none, none, none, none, none, none, none, none, none, none, none, none, none, none, none, none, none, none, none, none, none, none, none, none, none, none, none, none, none, none, none, none, none, none, none, none, none, none, none, none, none, none, none, none, none] (by kernel_rfl) ?_
                  intro f gg w9 hB hfa hT hfg
                  have h87 : f 87 = _ := (hfg 87 14 (by kernel_rfl)).trans (hT 14 _ (by kernel_rfl) rfl)
                  exact hQ1 f w9 ⟨by rw [h87, decide_eq_true hg, Bool.true_and], (Below.refl W3.heap.size W3).drew.trans hB⟩
                · skip
                  refine Flow.wp_region_flow (W3.heap.size) [] [] (by kernel_rfl) (by kernel_rfl) (Nat.le_refl _) (fun _ h => by cases h) Flow.facts_nil ?_
                  refine Flow.pass_old (X := .int .i64 ((aa : Int))) 1 (Flow.met_none rfl) (.inl rfl) (by kernel_rfl) (by kernel_rfl) rfl ?_
                  refine Flow.pass_val (.bool false) (Flow.met_none rfl) (fun a W hH => ?_) ?_
                  · have e0 := Flow.see_new 73 0 hH.sees (by kernel_rfl) (by kernel_rfl) rfl rfl
                    go_simp; first | done | rfl | omega | (simp; done) | (simp; omega) | exact decide_eq_true (by omega) | exact decide_eq_false (by omega)
                  refine Flow.pass_copy 74 1 (Flow.met_none rfl) (.inl rfl) (by kernel_rfl) (by kernel_rfl) rfl rfl (fun _ _ => Flow.kept_eqs _ _) ?_
                  refine Flow.pass_skip (fun a W hH => Flow.not_wanted 2 true 75 hH rfl rfl (by kernel_rfl) (by kernel_rfl) rfl rfl) ?_
                  refine Flow.pass_skip (fun a W hH => Flow.not_wanted 2 true 75 hH rfl rfl (by kernel_rfl) (by kernel_rfl) rfl rfl) ?_
                  refine Flow.pass_skip (fun a W hH => Flow.not_wanted 2 true 75 hH rfl rfl (by kernel_rfl) (by kernel_rfl) rfl rfl) ?_
                  refine Flow.pass_skip (fun a W hH => Flow.not_wanted 2 true 75 hH rfl rfl (by kernel_rfl) (by kernel_rfl) rfl rfl) ?_
                  refine Flow.pass_skip (fun a W hH => Flow.not_wanted 2 true 75 hH rfl rfl (by kernel_rfl) (by kernel_rfl) rfl rfl) ?_
                  refine Flow.pass_skip (fun a W hH => Flow.not_wanted 2 true 75 hH rfl rfl (by kernel_rfl) (by kernel_rfl) rfl rfl) ?_
                  refine Flow.pass_skip (fun a W hH => Flow.not_wanted 2 true 75 hH rfl rfl (by kernel_rfl) (by kernel_rfl) rfl rfl) ?_
                  refine Flow.pass_skip (fun a W hH => Flow.not_wanted 2 true 75 hH rfl rfl (by kernel_rfl) (by kernel_rfl) rfl rfl) ?_
                  refine Flow.pass_skip (fun a W hH => Flow.not_wanted 2 true 75 hH rfl rfl (by kernel_rfl) (by kernel_rfl) rfl rfl) ?_
                  refine Flow.pass_skip (fun a W hH => Flow.not_wanted 2 true 75 hH rfl rfl (by kernel_rfl) (by kernel_rfl) rfl rfl) ?_
                  refine Flow.pass_skip (fun a W hH => Flow.not_wanted 2 true 75 hH rfl rfl (by kernel_rfl) (by kernel_rfl) rfl rfl) ?_
                  refine Flow.pass_val (.bool false) (Flow.met_none rfl) (fun a W hH => ?_) ?_
                  · have e0 := Flow.see_new 75 2 hH.sees (by kernel_rfl) (by kernel_rfl) rfl rfl
                    have e1 := Flow.see_new 86 13 hH.sees (by kernel_rfl) (by kernel_rfl) rfl rfl
                    go_simp; first | done | rfl
                  refine Flow.pass_end [none, none, none, none, none, none, none, none, none, none, none, none, none, none, none, none, none, none, none, none, none, none, none, none, none, none, none, none, none, none, none, none, none, none, none, none, none, none, none, none, none, none, none, none, none, none, none, none, none, none, none, none, none, none, none, none, none, none, none, none, none, none, none, none, none, none, none, none, none, none, none, none, none, some 73, some 74, some 75, some 76, some 77, some 78, some 79, some 80, some 81, some 82, some 83, some 84, some 85, some 86, some 87, none, none, none, none, none, none, none, none, none, none, none, none, none, none, none, none, none, none, none, none, none, none, none, none, none, none, none, none, none, none, none, none, none, none, none, none, none, none, none, none, none, none, none, none, none, none] (by kernel_rfl) ?_
                  intro f gg w9 hB hfa hT hfg
                  have h87 : f 87 = _ := (hfg 87 14 (by kernel_rfl)).trans (hT 14 _ (by kernel_rfl) rfl)
                  exact hQ1 f w9 ⟨by rw [h87, decide_eq_false hg, Bool.false_and], (Below.refl W3.heap.size W3).drew.trans hB⟩
              intro f Wt ⟨h87, hBWt⟩
              simp only [Reg.sel, h87]
              have hN_Wt := Blk.below hN_W3 hBWt (Blk.lt hN_W3)
              have hC_Wt := hC_W3.trans (Chg.of_ext hBWt)
              clear h87 hBWt
              cases hq : (decide (0 < aa) && !ltN d1[aa - 1]! d1[p]!) with
              | true =>
                have hq2 : 0 < aa ∧ ltN d1[aa - 1]! d1[p]! = false := by simpa using hq
                obtain ⟨z1, z2, z3⟩ := hI_d1.out.eq hq2.1 hp.1 hp.2 hq2.2
                have hcall := partitionEqual_walk g R d1 n cap aa bb p hI_d1.out.size hp.1 hp.2 hbn hn5 Wt hN_Wt
                generalize Sort.partitionEqual ltN d1 aa bb p = r at *
                obtain ⟨mid, d5⟩ := r
                have z1 : aa < mid := z1
                have z2 : mid ≤ bb := z2
                have z3 : PI mid bb n d5 G := z3
                have z3 := Lib.hid z3
                clear hq hq2
                go_wp2_with fail
                refine Calls.mono hcall ?_
                rintro e W7 ⟨rfl, hN7, hC7⟩
                clear hcall
                go_wp2
                go_roundw
                case rel => first | exact ⟨mid, bb, l, true, false, d5, rfl, rfl, rfl, rfl, rfl, by omega, z2, hbn, by omega, hl, z3, hN7, hC_Wt.trans hC7⟩ | ((repeat apply Exists.intro); refine ⟨?_, rfl⟩; exact ⟨mid, bb, l, true, false, d5, rfl, rfl, rfl, rfl, rfl, by omega, z2, hbn, by omega, hl, z3, hN7, hC_Wt.trans hC7⟩)
                case measure => first | (simp [intOf]; done) | (simp [intOf]; omega) | (simp only [intOf]; omega)
              | false =>
                obtain ⟨z1, z2, z3, z4, z5, z6, z7⟩ := hI_d1.out.part hp.1 hp.2
                have hcall := partition_walk g R d1 n cap aa bb p hI_d1.out.size hp.1 hp.2 hbn hn5 Wt hN_Wt
                generalize Sort.partition ltN d1 aa bb p = r at *
                obtain ⟨mid, ap, d5⟩ := r
                have z1 : aa ≤ mid := z1
                have z2 : mid < bb := z2
                have z3 : Sort.Below ltN aa mid d5 := z3
                have z4 : Sort.Below ltN (mid + 1) bb d5 := z4
                have z5 : d5.size = n := z5
                have z6 : ∀ L, Sort.PermIn aa mid d5 L → Sort.SortedIn ltN aa mid L → PI (mid + 1) bb n L G := z6
                have z7 : ∀ L, Sort.PermIn (mid + 1) bb d5 L → Sort.SortedIn ltN (mid + 1) bb L → PI aa mid n L G := z7
                have z6 := Lib.hid z6
                have z7 := Lib.hid z7
                have z3 := Lib.hid z3
                have z4 := Lib.hid z4
                clear hq
                go_wp2_with fail
                refine Calls.mono hcall ?_
                rintro e W7 ⟨rfl, hN7, hC7⟩
                have hC_W7 := hC_Wt.trans hC7
                have q1 : IntKind.i64.wrap ((mid : Int) - (aa : Int)) = (mid : Int) - (aa : Int) := IntWalk.i64_in _ (by omega)
                have q2 : IntKind.i64.wrap ((bb : Int) - (mid : Int)) = (bb : Int) - (mid : Int) := IntWalk.i64_in _ (by omega)
                have q3 : IntKind.i64.wrap ((mid : Int) + 1) = ((mid + 1 : Nat) : Int) := by rw [IntWalk.i64_in _ (by omega)]; omega
                clear hcall hC7 hC_Wt
                by_cases hlr : mid - aa < bb - mid
                · have hlri : (mid : Int) - (aa : Int) < (bb : Int) - (mid : Int) := by omega
                  have hrec := ih (mid - aa) (by omega) d5 aa mid l W7 rfl z5 z1 (by omega) hl z3.out hN7
                  go_wp2_with fail
                  refine Calls.mono hrec ?_
                  rintro e W8 ⟨rfl, d6, ⟨hp6, hs6⟩, hN8, hC8⟩
                  have hI6 := Lib.hid (z6.out d6 hp6 hs6)
                  clear hrec hp6 hs6
                  go_wp2
                  go_roundw
                  case rel => first | exact ⟨mid + 1, bb, l, _, ap, d6, by go_num, rfl, rfl, rfl, rfl, by omega, by omega, hbn, by omega, hl, hI6, hN8, hC_W7.trans hC8⟩ | ((repeat apply Exists.intro); refine ⟨?_, rfl⟩; exact ⟨mid + 1, bb, l, _, ap, d6, by go_num, rfl, rfl, rfl, rfl, by omega, by omega, hbn, by omega, hl, hI6, hN8, hC_W7.trans hC8⟩)
                  case measure => first | (simp [intOf]; done) | (simp [intOf]; omega) | (simp only [intOf]; omega)
                · have hlri : ¬ (mid : Int) - (aa : Int) < (bb : Int) - (mid : Int) := by omega
                  have hrec := ih (bb - (mid + 1)) (by omega) d5 (mid + 1) bb l W7 rfl z5 (by omega) hbn hl z4.out hN7
                  go_wp2_with fail
                  refine Calls.mono hrec ?_
                  rintro e W8 ⟨rfl, d6, ⟨hp6, hs6⟩, hN8, hC8⟩
                  have hI6 := Lib.hid (z7.out d6 hp6 hs6)
                  clear hrec hp6 hs6
                  go_wp2
                  go_roundw
                  case rel => first | exact ⟨aa, mid, l, _, ap, d6, rfl, rfl, rfl, rfl, rfl, hla, z1, by omega, by omega, hl, hI6, hN8, hC_W7.trans hC8⟩ | ((repeat apply Exists.intro); refine ⟨?_, rfl⟩; exact ⟨aa, mid, l, _, ap, d6, rfl, rfl, rfl, rfl, rfl, hla, z1, by omega, by omega, hl, hI6, hN8, hC_W7.trans hC8⟩)
                  case measure => first | (simp [intOf]; done) | (simp [intOf]; omega) | (simp only [intOf]; omega)
            · skip
              go_wp2_with fail
              have hs_d1 : d1.size = n := hI_d1.out.size
              refine s_cut [none, none, none, none, none, none, none, none, none, none, none, none, none, none, none, none, none, none, none, none, none, none, none, none, none, none, none, none, none, none, none, none, none, none, none, none, none, none, none, none, none, none, none, none, none, none, none, none, none, none, none, none, none, none, none, none, none, none, none, none, none, none, none, none, none, none, none, none, none, none, none, none, none, some 73, some 74, some 75, some 76, some 77, some 78, some 79, some 80, some 81, some 82, some 83, some 84, some 85, some 86, some 87, none, none, none, none, none, none, none, none, none, none, none, none, none, none, none, none, none, none, none, none, none, none, none, none, none, none, none, none, none, none, none, none, none, none, none, none, none, none, none, none, none, none, none, none, none, none] (fun f W => f 87 = .bool (decide (0 < aa) && !ltN d1[aa - 1]! d1[p]!) ∧ Below W3.heap.size W3 W) (fun Q1 hQ1 => ?_) ?_
              · by_cases hg : 0 < aa
                · skip
                  refine Flow.wp_region_flow (W3.heap.size) [] [] (by kernel_rfl) (by kernel_rfl) (Nat.le_refl _) (fun _ h => by cases h) Flow.facts_nil ?_
                  refine Flow.pass_old (X := .int .i64 ((aa : Int))) 1 (Flow.met_none rfl) (.inl rfl) (by kernel_rfl) (by kernel_rfl) rfl ?_
                  refine Flow.pass_val (.bool true) (Flow.met_none rfl) (fun a W hH => ?_) ?_
                  · have e0 := Flow.see_new 73 0 hH.sees (by kernel_rfl) (by kernel_rfl) rfl rfl
                    go_simp; first | done | rfl | omega | (simp; done) | (simp; omega) | exact decide_eq_true (by omega) | exact decide_eq_false (by omega)
                  refine Flow.pass_copy 74 1 (Flow.met_none rfl) (.inl rfl) (by kernel_rfl) (by kernel_rfl) rfl rfl (fun _ _ => Flow.kept_eqs _ _) ?_
                  refine Flow.pass_old (X := .slice (some ⟨g, 0, none⟩) n cap) 0 (Flow.met_some 2 true 75 rfl rfl (by kernel_rfl) (by kernel_rfl) rfl rfl) (.inl rfl) (by kernel_rfl) (by kernel_rfl) rfl ?_
                  refine Flow.pass_old (X := .int .i64 ((aa : Int))) 1 (Flow.met_some 2 true 75 rfl rfl (by kernel_rfl) (by kernel_rfl) rfl rfl) (.inl rfl) (by kernel_rfl) (by kernel_rfl) rfl ?_
                  refine Flow.pass_val (.int .i64 ((aa : Int) - 1)) (Flow.met_some 2 true 75 rfl rfl (by kernel_rfl) (by kernel_rfl) rfl rfl) (fun a W hH => ?_) ?_
                  · have e0 := Flow.see_new 77 4 hH.sees (by kernel_rfl) (by kernel_rfl) rfl rfl
                    go_simp; first | done | rfl | (rw [IntWalk.i64_in _ (by omega)]; first | done | rfl | omega | (simp; done))
                  refine Flow.pass_val (.pointer (some ⟨g, (aa - 1), none⟩)) (Flow.met_some 2 true 75 rfl rfl (by kernel_rfl) (by kernel_rfl) rfl rfl) (fun a W hH => ?_) ?_
                  · have e0 := Flow.see_new 76 3 hH.sees (by kernel_rfl) (by kernel_rfl) rfl rfl
                    have e1 := Flow.see_new 78 5 hH.sees (by kernel_rfl) (by kernel_rfl) rfl rfl
                    exact s_ixS (s := 1) ((aa - 1)) _ rfl Try.underlying72 (by kernel_rfl) (by first | exact e0 | simpa [Act.eval] using e0 | (simp [Act.eval])) (by first | exact e1 | simpa [Act.eval] using e1 | (simp [Act.eval])) (by omega) (by omega) (by omega)
                  refine Flow.pass_val (.int .u64 ((d1[(aa - 1)]! : Nat) : Int)) (Flow.met_some 2 true 75 rfl rfl (by kernel_rfl) (by kernel_rfl) rfl rfl) (fun a W hH => ?_) ?_
                  · have e0 := Flow.see_new 79 6 hH.sees (by kernel_rfl) (by kernel_rfl) rfl rfl
                    have cc := nr_cell (hN_W3.below ((Below.refl W3.heap.size W3).drew.trans hH.below) hN_W3.lt) ((aa - 1)) (by omega); go_simp; first | done | rfl
                  refine Flow.pass_old (X := .slice (some ⟨g, 0, none⟩) n cap) 0 (Flow.met_some 2 true 75 rfl rfl (by kernel_rfl) (by kernel_rfl) rfl rfl) (.inl rfl) (by kernel_rfl) (by kernel_rfl) rfl ?_
                  refine Flow.pass_old (X := .int .i64 ((p : Int))) 11 (Flow.met_some 2 true 75 rfl rfl (by kernel_rfl) (by kernel_rfl) rfl rfl) (.inl rfl) (by kernel_rfl) (by kernel_rfl) rfl ?_
                  refine Flow.pass_val (.pointer (some ⟨g, p, none⟩)) (Flow.met_some 2 true 75 rfl rfl (by kernel_rfl) (by kernel_rfl) rfl rfl) (fun a W hH => ?_) ?_
                  · have e0 := Flow.see_new 81 8 hH.sees (by kernel_rfl) (by kernel_rfl) rfl rfl
                    have e1 := Flow.see_new 82 9 hH.sees (by kernel_rfl) (by kernel_rfl) rfl rfl
                    exact s_ixS (s := 1) (p) _ rfl Try.underlying72 (by kernel_rfl) (by first | exact e0 | simpa [Act.eval] using e0 | (simp [Act.eval])) (by first | exact e1 | simpa [Act.eval] using e1 | (simp [Act.eval])) (by omega) (by omega) (by omega)
                  refine Flow.pass_val (.int .u64 ((d1[p]! : Nat) : Int)) (Flow.met_some 2 true 75 rfl rfl (by kernel_rfl) (by kernel_rfl) rfl rfl) (fun a W hH => ?_) ?_
                  · have e0 := Flow.see_new 83 10 hH.sees (by kernel_rfl) (by kernel_rfl) rfl rfl
                    have cc := nr_cell (hN_W3.below ((Below.refl W3.heap.size W3).drew.trans hH.below) hN_W3.lt) (p) (by omega); go_simp; first | done | rfl
                  refine Flow.pass_step (Reg.eqs (.bool (ltN (d1[(aa - 1)]!) (d1[p]!)))) (fun _ _ => Flow.kept_eqs _ _) (Flow.met_some 2 true 75 rfl rfl (by kernel_rfl) (by kernel_rfl) rfl rfl) (fun a W hH => ?_) ?_
                  · have e0 := Flow.see_new 80 7 hH.sees (by kernel_rfl) (by kernel_rfl) rfl rfl
                    have e1 := Flow.see_new 84 11 hH.sees (by kernel_rfl) (by kernel_rfl) rfl rfl
                    refine Reg.wp_call rfl Try.func77 rfl (by kernel_rfl) (by simp [Act.eval, e0, e1]) (lessN (d1[(aa - 1)]!) (d1[p]!) W) ?_
                    rintro e w' ⟨rfl, rfl⟩
                    exact ⟨_, rfl, _, rfl, Ext.refl _, rfl⟩
                  refine Flow.pass_val (.bool (!(ltN (d1[(aa - 1)]!) (d1[p]!)))) (Flow.met_some 2 true 75 rfl rfl (by kernel_rfl) (by kernel_rfl) rfl rfl) (fun a W hH => ?_) ?_
                  · have e0 := Flow.see_new 85 12 hH.sees (by kernel_rfl) (by kernel_rfl) rfl rfl
                    go_simp; first | done | rfl
                  refine Flow.pass_val (.bool (!(ltN (d1[(aa - 1)]!) (d1[p]!)))) (Flow.met_none rfl) (fun a W hH => ?_) ?_
                  · have e0 := Flow.see_new 75 2 hH.sees (by kernel_rfl) (by kernel_rfl) rfl rfl
                    have e1 := Flow.see_new 86 13 hH.sees (by kernel_rfl) (by kernel_rfl) rfl rfl
                    go_simp; first | done | rfl
                  refine Flow.pass_end [none, none, none, none, none, none, none, none, none, none, none, none, none, none, none, none, none, none, none, none, none, none, none, none, none, none, none, none, none, none, none, none, none, none, none, none, none, none, none, none, none, none, none, none, none, none, none, none, none, none, none, none, none, none, none, none, none, none, none, none, none, none, none, none, none, none, none, none, none, none, none, none, none, some 73, some 74, some 75, some 76, some 77, some 78, some 79, some 80, some 81, some 82, some 83, some 84, some 85, some 86, some 87, none, none, none, none, none, none, none, none, none, none, none, none, none, none, none, none, none, none, none, none, none, none, none, none, none, none, none, none, none, none, none, none, none, none, none, none, none, none, none, none, none, none, none, none, none, none] (by kernel_rfl) ?_
                  intro f gg w9 hB hfa hT hfg
                  have h87 : f 87 = _ := (hfg 87 14 (by kernel_rfl)).trans (hT 14 _ (by kernel_rfl) rfl)
                  exact hQ1 f w9 ⟨by rw [h87, decide_eq_true hg, Bool.true_and], (Below.refl W3.heap.size W3).drew.trans hB⟩
                · skip
                  refine Flow.wp_region_flow (W3.heap.size) [] [] (by kernel_rfl) (by kernel_rfl) (Nat.le_refl _) (fun _ h => by cases h) Flow.facts_nil ?_
                  refine Flow.pass_old (X := .int .i64 ((aa : Int))) 1 (Flow.met_none rfl) (.inl rfl) (by kernel_rfl) (by kernel_rfl) rfl ?_
                  refine Flow.pass_val (.bool false) (Flow.met_none rfl) (fun a W hH => ?_) ?_
                  · have e0 := Flow.see_new 73 0 hH.sees (by kernel_rfl) (by kernel_rfl) rfl rfl
                    go_simp; first | done | rfl | omega | (simp; done) | (simp; omega) | exact decide_eq_true (by omega) | exact decide_eq_false (by omega)
                  refine Flow.pass_copy 74 1 (Flow.met_none rfl) (.inl rfl) (by kernel_rfl) (by kernel_rfl) rfl rfl (fun _ _ => Flow.kept_eqs _ _) ?_
                  refine Flow.pass_skip (fun a W hH => Flow.not_wanted 2 true 75 hH rfl rfl (by kernel_rfl) (by kernel_rfl) rfl rfl) ?_
                  refine Flow.pass_skip (fun a W hH => Flow.not_wanted 2 true 75 hH rfl rfl (by kernel_rfl) (by kernel_rfl) rfl rfl) ?_
                  refine Flow.pass_skip (fun a W hH => Flow.not_wanted 2 true 75 hH rfl rfl (by kernel_rfl) (by kernel_rfl) rfl rfl) ?_
                  refine Flow.pass_skip (fun a W hH => Flow.not_wanted 2 true 75 hH rfl rfl (by kernel_rfl) (by kernel_rfl) rfl rfl) ?_
                  refine Flow.pass_skip (fun a W hH => Flow.not_wanted 2 true 75 hH rfl rfl (by kernel_rfl) (by kernel_rfl) rfl rfl) ?_
                  refine Flow.pass_skip (fun a W hH => Flow.not_wanted 2 true 75 hH rfl rfl (by kernel_rfl) (by kernel_rfl) rfl rfl) ?_
                  refine Flow.pass_skip (fun a W hH => Flow.not_wanted 2 true 75 hH rfl rfl (by kernel_rfl) (by kernel_rfl) rfl rfl) ?_
                  refine Flow.pass_skip (fun a W hH => Flow.not_wanted 2 true 75 hH rfl rfl (by kernel_rfl) (by kernel_rfl) rfl rfl) ?_
                  refine Flow.pass_skip (fun a W hH => Flow.not_wanted 2 true 75 hH rfl rfl (by kernel_rfl) (by kernel_rfl) rfl rfl) ?_
                  refine Flow.pass_skip (fun a W hH => Flow.not_wanted 2 true 75 hH rfl rfl (by kernel_rfl) (by kernel_rfl) rfl rfl) ?_
                  refine Flow.pass_skip (fun a W hH => Flow.not_wanted 2 true 75 hH rfl rfl (by kernel_rfl) (by kernel_rfl) rfl rfl) ?_
                  refine Flow.pass_val (.bool false) (Flow.met_none rfl) (fun a W hH => ?_) ?_
                  · have e0 := Flow.see_new 75 2 hH.sees (by kernel_rfl) (by kernel_rfl) rfl rfl
                    have e1 := Flow.see_new 86 13 hH.sees (by kernel_rfl) (by kernel_rfl) rfl rfl
                    go_simp; first | done | rfl
                  refine Flow.pass_end [none, none, none, none, none, none, none, none, none, none, none, none, none, none, none, none, none, none, none, none, none, none, none, none, none, none, none, none, none, none, none, none, none, none, none, none, none, none, none, none, none, none, none, none, none, none, none, none, none, none, none, none, none, none, none, none, none, none, none, none, none, none, none, none, none, none, none, none, none, none, none, none, none, some 73, some 74, some 75, some 76, some 77, some 78, some 79, some 80, some 81, some 82, some 83, some 84, some 85, some 86, some 87, none, none, none, none, none, none, none, none, none, none, none, none, none, none, none, none, none, none, none, none, none, none, none, none, none, none, none, none, none, none, none, none, none, none, none, none, none, none, none, none, none, none, none, none, none, none] (by kernel_rfl) ?_
                  intro f gg w9 hB hfa hT hfg
                  have h87 : f 87 = _ := (hfg 87 14 (by kernel_rfl)).trans (hT 14 _ (by kernel_rfl) rfl)
                  exact hQ1 f w9 ⟨by rw [h87, decide_eq_false hg, Bool.false_and], (Below.refl W3.heap.size W3).drew.trans hB⟩
              intro f Wt ⟨h87, hBWt⟩
              simp only [Reg.sel, h87]
              have hN_Wt := Blk.below hN_W3 hBWt (Blk.lt hN_W3)
              have hC_Wt := hC_W3.trans (Chg.of_ext hBWt)
              clear h87 hBWt
              cases hq : (decide (0 < aa) && !ltN d1[aa - 1]! d1[p]!) with
              | true =>
                have hq2 : 0 < aa ∧ ltN d1[aa - 1]! d1[p]! = false := by simpa using hq
                obtain ⟨z1, z2, z3⟩ := hI_d1.out.eq hq2.1 hp.1 hp.2 hq2.2
                have hcall := partitionEqual_walk g R d1 n cap aa bb p hI_d1.out.size hp.1 hp.2 hbn hn5 Wt hN_Wt
                generalize Sort.partitionEqual ltN d1 aa bb p = r at *
                obtain ⟨mid, d5⟩ := r
                have z1 : aa < mid := z1
                have z2 : mid ≤ bb := z2
                have z3 : PI mid bb n d5 G := z3
                have z3 := Lib.hid z3
                clear hq hq2
                go_wp2_with fail
                refine Calls.mono hcall ?_
                rintro e W7 ⟨rfl, hN7, hC7⟩
                clear hcall
                go_wp2
                go_roundw
                case rel => first | exact ⟨mid, bb, l, true, false, d5, rfl, rfl, rfl, rfl, rfl, by omega, z2, hbn, by omega, hl, z3, hN7, hC_Wt.trans hC7⟩ | ((repeat apply Exists.intro); refine ⟨?_, rfl⟩; exact ⟨mid, bb, l, true, false, d5, rfl, rfl, rfl, rfl, rfl, by omega, z2, hbn, by omega, hl, z3, hN7, hC_Wt.trans hC7⟩)
                case measure => first | (simp [intOf]; done) | (simp [intOf]; omega) | (simp only [intOf]; omega)
              | false =>
                obtain ⟨z1, z2, z3, z4, z5, z6, z7⟩ := hI_d1.out.part hp.1 hp.2
                have hcall := partition_walk g R d1 n cap aa bb p hI_d1.out.size hp.1 hp.2 hbn hn5 Wt hN_Wt
                generalize Sort.partition ltN d1 aa bb p = r at *
                obtain ⟨mid, ap, d5⟩ := r
                have z1 : aa ≤ mid := z1
                have z2 : mid < bb := z2
                have z3 : Sort.Below ltN aa mid d5 := z3
                have z4 : Sort.Below ltN (mid + 1) bb d5 := z4
                have z5 : d5.size = n := z5
                have z6 : ∀ L, Sort.PermIn aa mid d5 L → Sort.SortedIn ltN aa mid L → PI (mid + 1) bb n L G := z6
                have z7 : ∀ L, Sort.PermIn (mid + 1) bb d5 L → Sort.SortedIn ltN (mid + 1) bb L → PI aa mid n L G := z7
                have z6 := Lib.hid z6
                have z7 := Lib.hid z7
                have z3 := Lib.hid z3
                have z4 := Lib.hid z4
                clear hq
                go_wp2_with fail
                refine Calls.mono hcall ?_
                rintro e W7 ⟨rfl, hN7, hC7⟩
                have hC_W7 := hC_Wt.trans hC7
                have q1 : IntKind.i64.wrap ((mid : Int) - (aa : Int)) = (mid : Int) - (aa : Int) := IntWalk.i64_in _ (by omega)
                have q2 : IntKind.i64.wrap ((bb : Int) - (mid : Int)) = (bb : Int) - (mid : Int) := IntWalk.i64_in _ (by omega)
                have q3 : IntKind.i64.wrap ((mid : Int) + 1) = ((mid + 1 : Nat) : Int) := by rw [IntWalk.i64_in _ (by omega)]; omega
                clear hcall hC7 hC_Wt
                by_cases hlr : mid - aa < bb - mid
                · have hlri : (mid : Int) - (aa : Int) < (bb : Int) - (mid : Int) := by omega
                  have hrec := ih (mid - aa) (by omega) d5 aa mid l W7 rfl z5 z1 (by omega) hl z3.out hN7
                  go_wp2_with fail
                  refine Calls.mono hrec ?_
                  rintro e W8 ⟨rfl, d6, ⟨hp6, hs6⟩, hN8, hC8⟩
                  have hI6 := Lib.hid (z6.out d6 hp6 hs6)
                  clear hrec hp6 hs6
                  go_wp2
                  go_roundw
                  case rel => first | exact ⟨mid + 1, bb, l, _, ap, d6, by go_num, rfl, rfl, rfl, rfl, by omega, by omega, hbn, by omega, hl, hI6, hN8, hC_W7.trans hC8⟩ | ((repeat apply Exists.intro); refine ⟨?_, rfl⟩; exact ⟨mid + 1, bb, l, _, ap, d6, by go_num, rfl, rfl, rfl, rfl, by omega, by omega, hbn, by omega, hl, hI6, hN8, hC_W7.trans hC8⟩)
                  case measure => first | (simp [intOf]; done) | (simp [intOf]; omega) | (simp only [intOf]; omega)
                · have hlri : ¬ (mid : Int) - (aa : Int) < (bb : Int) - (mid : Int) := by omega
                  have hrec := ih (bb - (mid + 1)) (by omega) d5 (mid + 1) bb l W7 rfl z5 (by omega) hbn hl z4.out hN7
                  go_wp2_with fail
                  refine Calls.mono hrec ?_
                  rintro e W8 ⟨rfl, d6, ⟨hp6, hs6⟩, hN8, hC8⟩
                  have hI6 := Lib.hid (z7.out d6 hp6 hs6)
                  clear hrec hp6 hs6
                  go_wp2
                  go_roundw
                  case rel => first | exact ⟨aa, mid, l, _, ap, d6, rfl, rfl, rfl, rfl, rfl, hla, z1, by omega, by omega, hl, hI6, hN8, hC_W7.trans hC8⟩ | ((repeat apply Exists.intro); refine ⟨?_, rfl⟩; exact ⟨aa, mid, l, _, ap, d6, rfl, rfl, rfl, rfl, rfl, hla, z1, by omega, by omega, hl, hI6, hN8, hC_W7.trans hC8⟩)
                  case measure => first | (simp [intOf]; done) | (simp [intOf]; omega) | (simp only [intOf]; omega)
            · skip
              have hcall := reverseRange_walk g R d1 n cap aa bb hI_d1.out.size (by omega) hbn hn5 W3 hN_W3
              obtain ⟨p2, hp2e⟩ : ∃ q, bb - 1 - (p - aa) = q := ⟨_, rfl⟩
              have hp2 : aa ≤ p2 ∧ p2 < bb := by omega
              have u1 : IntKind.i64.wrap ((bb : Int) - 1) = (bb : Int) - 1 := IntWalk.i64_in _ (by omega)
              have u2 : IntKind.i64.wrap ((p : Int) - (aa : Int)) = (p : Int) - (aa : Int) := IntWalk.i64_in _ (by omega)
              have u3 : IntKind.i64.wrap ((bb : Int) - 1 - ((p : Int) - (aa : Int))) = (p2 : Int) := by rw [IntWalk.i64_in _ (by omega)]; omega
              clear hp2e
              go_wp2_with fail
              refine Calls.mono hcall ?_
              rintro e W5 ⟨rfl, d3, hpm, hN_W5, hC5⟩
              have hC_W5 := hC_W3.trans hC5
              have hI_d3 := Lib.hid (hI_d1.out.perm hpm)
              clear hcall hC5 hpm hN_W3 hC_W3
              go_wp2_with fail
              have hs_d3 : d3.size = n := hI_d3.out.size
              refine s_cut [none, none, none, none, none, none, none, none, none, none, none, none, none, none, none, none, none, none, none, none, none, none, none, none, none, none, none, none, none, none, none, none, none, none, none, none, none, none, none, none, none, none, none, none, none, none, none, none, none, none, none, none, none, none, none, none, none, none, none, none, none, none, none, none, none, none, none, none, none, none, none, none, none, some 73, some 74, some 75, some 76, some 77, some 78, some 79, some 80, some 81, some 82, some 83, some 84, some 85, some 86, some 87, none, none, none, none, none, none, none, none, none, none, none, none, none, none, none, none, none, none, none, none, none, none, none, none, none, none, none, none, none, none, none, none, none, none, none, none, none, none, none, none, none, none, none, none, none, none] (fun f W => f 87 = .bool (decide (0 < aa) && !ltN d3[aa - 1]! d3[p2]!) ∧ Below W5.heap.size W5 W) (fun Q1 hQ1 => ?_) ?_
              · by_cases hg : 0 < aa
                · skip
                  refine Flow.wp_region_flow (W5.heap.size) [] [] (by kernel_rfl) (by kernel_rfl) (Nat.le_refl _) (fun _ h => by cases h) Flow.facts_nil ?_
                  refine Flow.pass_old (X := .int .i64 ((aa : Int))) 1 (Flow.met_none rfl) (.inl rfl) (by kernel_rfl) (by kernel_rfl) rfl ?_
                  refine Flow.pass_val (.bool true) (Flow.met_none rfl) (fun a W hH => ?_) ?_
                  · have e0 := Flow.see_new 73 0 hH.sees (by kernel_rfl) (by kernel_rfl) rfl rfl
                    go_simp; first | done | rfl | omega | (simp; done) | (simp; omega) | exact decide_eq_true (by omega) | exact decide_eq_false (by omega)
                  refine Flow.pass_copy 74 1 (Flow.met_none rfl) (.inl rfl) (by kernel_rfl) (by kernel_rfl) rfl rfl (fun _ _ => Flow.kept_eqs _ _) ?_
                  refine Flow.pass_old (X := .slice (some ⟨g, 0, none⟩) n cap) 0 (Flow.met_some 2 true 75 rfl rfl (by kernel_rfl) (by kernel_rfl) rfl rfl) (.inl rfl) (by kernel_rfl) (by kernel_rfl) rfl ?_
                  refine Flow.pass_old (X := .int .i64 ((aa : Int))) 1 (Flow.met_some 2 true 75 rfl rfl (by kernel_rfl) (by kernel_rfl) rfl rfl) (.inl rfl) (by kernel_rfl) (by kernel_rfl) rfl ?_
                  refine Flow.pass_val (.int .i64 ((aa : Int) - 1)) (Flow.met_some 2 true 75 rfl rfl (by kernel_rfl) (by kernel_rfl) rfl rfl) (fun a W hH => ?_) ?_
                  · have e0 := Flow.see_new 77 4 hH.sees (by kernel_rfl) (by kernel_rfl) rfl rfl
                    go_simp; first | done | rfl | (rw [IntWalk.i64_in _ (by omega)]; first | done | rfl | omega | (simp; done))
                  refine Flow.pass_val (.pointer (some ⟨g, (aa - 1), none⟩)) (Flow.met_some 2 true 75 rfl rfl (by kernel_rfl) (by kernel_rfl) rfl rfl) (fun a W hH => ?_) ?_
                  · have e0 := Flow.see_new 76 3 hH.sees (by kernel_rfl) (by kernel_rfl) rfl rfl
                    have e1 := Flow.see_new 78 5 hH.sees (by kernel_rfl) (by kernel_rfl) rfl rfl
                    exact s_ixS (s := 1) ((aa - 1)) _ rfl Try.underlying72 (by kernel_rfl) (by first | exact e0 | simpa [Act.eval] using e0 | (simp [Act.eval])) (by first | exact e1 | simpa [Act.eval] using e1 | (simp [Act.eval])) (by omega) (by omega) (by omega)
                  refine Flow.pass_val (.int .u64 ((d3[(aa - 1)]! : Nat) : Int)) (Flow.met_some 2 true 75 rfl rfl (by kernel_rfl) (by kernel_rfl) rfl rfl) (fun a W hH => ?_) ?_
                  · have e0 := Flow.see_new 79 6 hH.sees (by kernel_rfl) (by kernel_rfl) rfl rfl
                    have cc := nr_cell (hN_W5.below ((Below.refl W5.heap.size W5).drew.trans hH.below) hN_W5.lt) ((aa - 1)) (by omega); go_simp; first | done | rfl
                  refine Flow.pass_old (X := .slice (some ⟨g, 0, none⟩) n cap) 0 (Flow.met_some 2 true 75 rfl rfl (by kernel_rfl) (by kernel_rfl) rfl rfl) (.inl rfl) (by kernel_rfl) (by kernel_rfl) rfl ?_
                  refine Flow.pass_old (X := .int .i64 ((p2 : Int))) 11 (Flow.met_some 2 true 75 rfl rfl (by kernel_rfl) (by kernel_rfl) rfl rfl) (.inl rfl) (by kernel_rfl) (by kernel_rfl) rfl ?_
                  refine Flow.pass_val (.pointer (some ⟨g, p2, none⟩)) (Flow.met_some 2 true 75 rfl rfl (by kernel_rfl) (by kernel_rfl) rfl rfl) (fun a W hH => ?_) ?_
                  · have e0 := Flow.see_new 81 8 hH.sees (by kernel_rfl) (by kernel_rfl) rfl rfl
                    have e1 := Flow.see_new 82 9 hH.sees (by kernel_rfl) (by kernel_rfl) rfl rfl
                    exact s_ixS (s := 1) (p2) _ rfl Try.underlying72 (by kernel_rfl) (by first | exact e0 | simpa [Act.eval] using e0 | (simp [Act.eval])) (by first | exact e1 | simpa [Act.eval] using e1 | (simp [Act.eval])) (by omega) (by omega) (by omega)
                  refine Flow.pass_val (.int .u64 ((d3[p2]! : Nat) : Int)) (Flow.met_some 2 true 75 rfl rfl (by kernel_rfl) (by kernel_rfl) rfl rfl) (fun a W hH => ?_) ?_
                  · have e0 := Flow.see_new 83 10 hH.sees (by kernel_rfl) (by kernel_rfl) rfl rfl
                    have cc := nr_cell (hN_W5.below ((Below.refl W5.heap.size W5).drew.trans hH.below) hN_W5.lt) (p2) (by omega); go_simp; first | done | rfl
                  refine Flow.pass_step (Reg.eqs (.bool (ltN (d3[(aa - 1)]!) (d3[p2]!)))) (fun _ _ => Flow.kept_eqs _ _) (Flow.met_some 2 true 75 rfl rfl (by kernel_rfl) (by kernel_rfl) rfl rfl) (fun a W hH => ?_) ?_
                  · have e0 := Flow.see_new 80 7 hH.sees (by kernel_rfl) (by kernel_rfl) rfl rfl
                    have e1 := Flow.see_new 84 11 hH.sees (by kernel_rfl) (by kernel_rfl) rfl rfl
                    refine Reg.wp_call rfl Try.func77 rfl (by kernel_rfl) (by simp [Act.eval, e0, e1]) (lessN (d3[(aa - 1)]!) (d3[p2]!) W) ?_
                    rintro e w' ⟨rfl, rfl⟩
                    exact ⟨_, rfl, _, rfl, Ext.refl _, rfl⟩
                  refine Flow.pass_val (.bool (!(ltN (d3[(aa - 1)]!) (d3[p2]!)))) (Flow.met_some 2 true 75 rfl rfl (by kernel_rfl) (by kernel_rfl) rfl rfl) (fun a W hH => ?_) ?_
                  · have e0 := Flow.see_new 85 12 hH.sees (by kernel_rfl) (by kernel_rfl) rfl rfl
                    go_simp; first | done | rfl
                  refine Flow.pass_val (.bool (!(ltN (d3[(aa - 1)]!) (d3[p2]!)))) (Flow.met_none rfl) (fun a W hH => ?_) ?_
                  · have e0 := Flow.see_new 75 2 hH.sees (by kernel_rfl) (by kernel_rfl) rfl rfl
                    have e1 := Flow.see_new 86 13 hH.sees (by kernel_rfl) (by kernel_rfl) rfl rfl
                    go_simp; first | done | rfl
                  refine Flow.pass_end [none, none, none, none, none, none, none, none, none, none, none, none, none, none, none, none, none, none, none, none, none, none, none, none, none, none, none, none, none, none, none, none, none, none, none, none, none, none, none, none, none, none, none, none, none, none, none, none, none, none, none, none, none, none, none, none, none, none, none, none, none, none, none, none, none, none, none, none, none, none, none, none, none, some 73, some 74, some 75, some 76, some 77, some 78, some 79, some 80, some 81, some 82, some 83, some 84, some 85, some 86, some 87, none, none, none, none, none, none, none, none, none, none, none, none, none, none, none, none, none, none, none, none, none, none, none, none, none, none, none, none, none, none, none, none, none, none, none, none, none, none, none, none, none, none, none, none, none, none] (by kernel_rfl) ?_
                  intro f gg w9 hB hfa hT hfg
                  have h87 : f 87 = _ := (hfg 87 14 (by kernel_rfl)).trans (hT 14 _ (by kernel_rfl) rfl)
                  exact hQ1 f w9 ⟨by rw [h87, decide_eq_true hg, Bool.true_and], (Below.refl W5.heap.size W5).drew.trans hB⟩
                · skip
                  refine Flow.wp_region_flow (W5.heap.size) [] [] (by kernel_rfl) (by kernel_rfl) (Nat.le_refl _) (fun _ h => by cases h) Flow.facts_nil ?_
                  refine Flow.pass_old (X := .int .i64 ((aa : Int))) 1 (Flow.met_none rfl) (.inl rfl) (by kernel_rfl) (by kernel_rfl) rfl ?_
                  refine Flow.pass_val (.bool false) (Flow.met_none rfl) (fun a W hH => ?_) ?_
                  · have e0 := Flow.see_new 73 0 hH.sees (by kernel_rfl) (by kernel_rfl) rfl rfl
                    go_simp; first | done | rfl | omega | (simp; done) | (simp; omega) | exact decide_eq_true (by omega) | exact decide_eq_false (by omega)
                  refine Flow.pass_copy 74 1 (Flow.met_none rfl) (.inl rfl) (by kernel_rfl) (by kernel_rfl) rfl rfl (fun _ _ => Flow.kept_eqs _ _) ?_
                  refine Flow.pass_skip (fun a W hH => Flow.not_wanted 2 true 75 hH rfl rfl (by kernel_rfl) (by kernel_rfl) rfl rfl) ?_
                  refine Flow.pass_skip (fun a W hH => Flow.not_wanted 2 true 75 hH rfl rfl (by kernel_rfl) (by kernel_rfl) rfl rfl) ?_
                  refine Flow.pass_skip (fun a W hH => Flow.not_wanted 2 true 75 hH rfl rfl (by kernel_rfl) (by kernel_rfl) rfl rfl) ?_
                  refine Flow.pass_skip (fun a W hH => Flow.not_wanted 2 true 75 hH rfl rfl (by kernel_rfl) (by kernel_rfl) rfl rfl) ?_
                  refine Flow.pass_skip (fun a W hH => Flow.not_wanted 2 true 75 hH rfl rfl (by kernel_rfl) (by kernel_rfl) rfl rfl) ?_
                  refine Flow.pass_skip (fun a W hH => Flow.not_wanted 2 true 75 hH rfl rfl (by kernel_rfl) (by kernel_rfl) rfl rfl) ?_
                  refine Flow.pass_skip (fun a W hH => Flow.not_wanted 2 true 75 hH rfl rfl (by kernel_rfl) (by kernel_rfl) rfl rfl) ?_
                  refine Flow.pass_skip (fun a W hH => Flow.not_wanted 2 true 75 hH rfl rfl (by kernel_rfl) (by kernel_rfl) rfl rfl) ?_
                  refine Flow.pass_skip (fun a W hH => Flow.not_wanted 2 true 75 hH rfl rfl (by kernel_rfl) (by kernel_rfl) rfl rfl) ?_
                  refine Flow.pass_skip (fun a W hH => Flow.not_wanted 2 true 75 hH rfl rfl (by kernel_rfl) (by kernel_rfl) rfl rfl) ?_
                  refine Flow.pass_skip (fun a W hH => Flow.not_wanted 2 true 75 hH rfl rfl (by kernel_rfl) (by kernel_rfl) rfl rfl) ?_
                  refine Flow.pass_val (.bool false) (Flow.met_none rfl) (fun a W hH => ?_) ?_
                  · have e0 := Flow.see_new 75 2 hH.sees (by kernel_rfl) (by kernel_rfl) rfl rfl
                    have e1 := Flow.see_new 86 13 hH.sees (by kernel_rfl) (by kernel_rfl) rfl rfl
                    go_simp; first | done | rfl
                  refine Flow.pass_end [none, none, none, none, none, none, none, none, none, none, none, none, none, none, none, none, none, none, none, none, none, none, none, none, none, none, none, none, none, none, none, none, none, none, none, none, none, none, none, none, none, none, none, none, none, none, none, none, none, none, none, none, none, none, none, none, none, none, none, none, none, none, none, none, none, none, none, none, none, none, none, none, none, some 73, some 74, some 75, some 76, some 77, some 78, some 79, some 80, some 81, some 82, some 83, some 84, some 85, some 86, some 87, none, none, none, none, none, none, none, none, none, none, none, none, none, none, none, none, none, none, none, none, none, none, none, none, none, none, none, none, none, none, none, none, none, none, none, none, none, none, none, none, none, none, none, none, none, none] (by kernel_rfl) ?_
                  intro f gg w9 hB hfa hT hfg
                  have h87 : f 87 = _ := (hfg 87 14 (by kernel_rfl)).trans (hT 14 _ (by kernel_rfl) rfl)
                  exact hQ1 f w9 ⟨by rw [h87, decide_eq_false hg, Bool.false_and], (Below.refl W5.heap.size W5).drew.trans hB⟩
              intro f Wt ⟨h87, hBWt⟩
              simp only [Reg.sel, h87]
              have hN_Wt := Blk.below hN_W5 hBWt (Blk.lt hN_W5)
              have hC_Wt := hC_W5.trans (Chg.of_ext hBWt)
              clear h87 hBWt
              cases hq : (decide (0 < aa) && !ltN d3[aa - 1]! d3[p2]!) with
              | true =>
                have hq2 : 0 < aa ∧ ltN d3[aa - 1]! d3[p2]! = false := by simpa using hq
                obtain ⟨z1, z2, z3⟩ := hI_d3.out.eq hq2.1 hp2.1 hp2.2 hq2.2
                have hcall := partitionEqual_walk g R d3 n cap aa bb p2 hI_d3.out.size hp2.1 hp2.2 hbn hn5 Wt hN_Wt
                generalize Sort.partitionEqual ltN d3 aa bb p2 = r at *
                obtain ⟨mid, d5⟩ := r
                have z1 : aa < mid := z1
                have z2 : mid ≤ bb := z2
                have z3 : PI mid bb n d5 G := z3
                have z3 := Lib.hid z3
                clear hq hq2
                go_wp2_with fail
                refine Calls.mono hcall ?_
                rintro e W7 ⟨rfl, hN7, hC7⟩
                clear hcall
                go_wp2
                go_roundw
                case rel => first | exact ⟨mid, bb, l, true, false, d5, rfl, rfl, rfl, rfl, rfl, by omega, z2, hbn, by omega, hl, z3, hN7, hC_Wt.trans hC7⟩ | ((repeat apply Exists.intro); refine ⟨?_, rfl⟩; exact ⟨mid, bb, l, true, false, d5, rfl, rfl, rfl, rfl, rfl, by omega, z2, hbn, by omega, hl, z3, hN7, hC_Wt.trans hC7⟩)
                case measure => first | (simp [intOf]; done) | (simp [intOf]; omega) | (simp only [intOf]; omega)
              | false =>
                obtain ⟨z1, z2, z3, z4, z5, z6, z7⟩ := hI_d3.out.part hp2.1 hp2.2
                have hcall := partition_walk g R d3 n cap aa bb p2 hI_d3.out.size hp2.1 hp2.2 hbn hn5 Wt hN_Wt
                generalize Sort.partition ltN d3 aa bb p2 = r at *
                obtain ⟨mid, ap, d5⟩ := r
                have z1 : aa ≤ mid := z1
                have z2 : mid < bb := z2
                have z3 : Sort.Below ltN aa mid d5 := z3
                have z4 : Sort.Below ltN (mid + 1) bb d5 := z4
                have z5 : d5.size = n := z5
                have z6 : ∀ L, Sort.PermIn aa mid d5 L → Sort.SortedIn ltN aa mid L → PI (mid + 1) bb n L G := z6
                have z7 : ∀ L, Sort.PermIn (mid + 1) bb d5 L → Sort.SortedIn ltN (mid + 1) bb L → PI aa mid n L G := z7
                have z6 := Lib.hid z6
                have z7 := Lib.hid z7
                have z3 := Lib.hid z3
                have z4 := Lib.hid z4
                clear hq
                go_wp2_with fail
                refine Calls.mono hcall ?_
                rintro e W7 ⟨rfl, hN7, hC7⟩
                have hC_W7 := hC_Wt.trans hC7
                have q1 : IntKind.i64.wrap ((mid : Int) - (aa : Int)) = (mid : Int) - (aa : Int) := IntWalk.i64_in _ (by omega)
                have q2 : IntKind.i64.wrap ((bb : Int) - (mid : Int)) = (bb : Int) - (mid : Int) := IntWalk.i64_in _ (by omega)
                have q3 : IntKind.i64.wrap ((mid : Int) + 1) = ((mid + 1 : Nat) : Int) := by rw [IntWalk.i64_in _ (by omega)]; omega
                clear hcall hC7 hC_Wt
                by_cases hlr : mid - aa < bb - mid
                · have hlri : (mid : Int) - (aa : Int) < (bb : Int) - (mid : Int) := by omega
                  have hrec := ih (mid - aa) (by omega) d5 aa mid l W7 rfl z5 z1 (by omega) hl z3.out hN7
                  go_wp2_with fail
                  refine Calls.mono hrec ?_
                  rintro e W8 ⟨rfl, d6, ⟨hp6, hs6⟩, hN8, hC8⟩
                  have hI6 := Lib.hid (z6.out d6 hp6 hs6)
                  clear hrec hp6 hs6
                  go_wp2
                  go_roundw
                  case rel => first | exact ⟨mid + 1, bb, l, _, ap, d6, by go_num, rfl, rfl, rfl, rfl, by omega, by omega, hbn, by omega, hl, hI6, hN8, hC_W7.trans hC8⟩ | ((repeat apply Exists.intro); refine ⟨?_, rfl⟩; exact ⟨mid + 1, bb, l, _, ap, d6, by go_num, rfl, rfl, rfl, rfl, by omega, by omega, hbn, by omega, hl, hI6, hN8, hC_W7.trans hC8⟩)
                  case measure => first | (simp [intOf]; done) | (simp [intOf]; omega) | (simp only [intOf]; omega)
                · have hlri : ¬ (mid : Int) - (aa : Int) < (bb : Int) - (mid : Int) := by omega
                  have hrec := ih (bb - (mid + 1)) (by omega) d5 (mid + 1) bb l W7 rfl z5 (by omega) hbn hl z4.out hN7
                  go_wp2_with fail
                  refine Calls.mono hrec ?_
                  rintro e W8 ⟨rfl, d6, ⟨hp6, hs6⟩, hN8, hC8⟩
                  have hI6 := Lib.hid (z7.out d6 hp6 hs6)
                  clear hrec hp6 hs6
                  go_wp2
                  go_roundw
                  case rel => first | exact ⟨aa, mid, l, _, ap, d6, rfl, rfl, rfl, rfl, rfl, hla, z1, by omega, by omega, hl, hI6, hN8, hC_W7.trans hC8⟩ | ((repeat apply Exists.intro); refine ⟨?_, rfl⟩; exact ⟨aa, mid, l, _, ap, d6, rfl, rfl, rfl, rfl, rfl, hla, z1, by omega, by omega, hl, hI6, hN8, hC_W7.trans hC8⟩)
                  case measure => first | (simp [intOf]; done) | (simp [intOf]; omega) | (simp only [intOf]; omega)
          | true =>
            have hcall := choosePivot_walk g R d1 n cap aa bb hI_d1.out.size (by omega) hbn hn5 wr hN_wr
            go_wp2_with fail
            refine Calls.mono hcall ?_
            rintro e W3 ⟨p, hint, hp, hh, rfl, hN_W3, hB3⟩
            have hC_W3 : Chg (OnlyG g) w W3 := hC_wr.trans (Chg.of_ext hB3)
            clear hcall hB3
            rcases hh with rfl | rfl | rfl
            · skip
              go_wp2_with fail
              have hs_d1 : d1.size = n := hI_d1.out.size
              refine s_cut [none, none, none, none, none, none, none, none, none, none, none, none, none, none, none, none, none, none, none, none, none, none, none, none, none, none, none, none, none, none, none, none, none, none, none, none, none, none, none, none, none, none, none, none, none, none, none, none, none, none, none, none, none, none, none, none, none, none, none, none, none, none, none, none, none, none, none, none, none, none, none, none, none, some 73, some 74, some 75, some 76, some 77, some 78, some 79, some 80, some 81, some 82, some 83, some 84, some 85, some 86, some 87, none, none, none, none, none, none, none, none, none, none, none, none, none, none, none, none, none, none, none, none, none, none, none, none, none, none, none, none, none, none, none, none, none, none, none, none, none, none, none, none, none, none, none, none, none, none] (fun f W => f 87 = .bool (decide (0 < aa) && !ltN d1[aa - 1]! d1[p]!) ∧ Below W3.heap.size W3 W) (fun Q1 hQ1 => ?_) ?_
              · by_cases hg : 0 < aa
                · skip
                  refine Flow.wp_region_flow (W3.heap.size) [] [] (by kernel_rfl) (by kernel_rfl) (Nat.le_refl _) (fun _ h => by cases h) Flow.facts_nil ?_
                  refine Flow.pass_old (X := .int .i64 ((aa : Int))) 1 (Flow.met_none rfl) (.inl rfl) (by kernel_rfl) (by kernel_rfl) rfl ?_
                  refine Flow.pass_val (.bool true) (Flow.met_none rfl) (fun a W hH => ?_) ?_
                  · have e0 := Flow.see_new 73 0 hH.sees (by kernel_rfl) (by kernel_rfl) rfl rfl
                    go_simp; first | done | rfl | omega | (simp; done) | (simp; omega) | exact decide_eq_true (by omega) | exact decide_eq_false (by omega)
                  refine Flow.pass_copy 74 1 (Flow.met_none rfl) (.inl rfl) (by kernel_rfl) (by kernel_rfl) rfl rfl (fun _ _ => Flow.kept_eqs _ _) ?_
                  refine Flow.pass_old (X := .slice (some ⟨g, 0, none⟩) n cap) 0 (Flow.met_some 2 true 75 rfl rfl (by kernel_rfl) (by kernel_rfl) rfl rfl) (.inl rfl) (by kernel_rfl) (by kernel_rfl) rfl ?_
                  refine Flow.pass_old (X := .int .i64 ((aa : Int))) 1 (Flow.met_some 2 true 75 rfl rfl (by kernel_rfl) (by kernel_rfl) rfl rfl) (.inl rfl) (by kernel_rfl) (by kernel_rfl) rfl ?_
                  refine Flow.pass_val (.int .i64 ((aa : Int) - 1)) (Flow.met_some 2 true 75 rfl rfl (by kernel_rfl) (by kernel_rfl) rfl rfl) (fun a W hH => ?_) ?_
                  · have e0 := Flow.see_new 77 4 hH.sees (by kernel_rfl) (by kernel_rfl) rfl rfl
                    go_simp; first | done | rfl | (rw [IntWalk.i64_in _ (by omega)]; first | done | rfl | omega | (simp; done))
                  refine Flow.pass_val (.pointer (some ⟨g, (aa - 1), none⟩)) (Flow.met_some 2 true 75 rfl rfl (by kernel_rfl) (by kernel_rfl) rfl rfl) (fun a W hH => ?_) ?_
                  · have e0 := Flow.see_new 76 3 hH.sees (by kernel_rfl) (by kernel_rfl) rfl rfl
                    have e1 := Flow.see_new 78 5 hH.sees (by kernel_rfl) (by kernel_rfl) rfl rfl
                    exact s_ixS (s := 1) ((aa - 1)) _ rfl Try.underlying72 (by kernel_rfl) (by first | exact e0 | simpa [Act.eval] using e0 | (simp [Act.eval])) (by first | exact e1 | simpa [Act.eval] using e1 | (simp [Act.eval])) (by omega) (by omega) (by omega)
                  refine Flow.pass_val (.int .u64 ((d1[(aa - 1)]! : Nat) : Int)) (Flow.met_some 2 true 75 rfl rfl (by kernel_rfl) (by kernel_rfl) rfl rfl) (fun a W hH => ?_) ?_
                  · have e0 := Flow.see_new 79 6 hH.sees (by kernel_rfl) (by kernel_rfl) rfl rfl
                    have cc := nr_cell (hN_W3.below ((Below.refl W3.heap.size W3).drew.trans hH.below) hN_W3.lt) ((aa - 1)) (by omega); go_simp; first | done | rfl
                  refine Flow.pass_old (X := .slice (some ⟨g, 0, none⟩) n cap) 0 (Flow.met_some 2 true 75 rfl rfl (by kernel_rfl) (by kernel_rfl) rfl rfl) (.inl rfl) (by kernel_rfl) (by kernel_rfl) rfl ?_
                  refine Flow.pass_old (X := .int .i64 ((p : Int))) 11 (Flow.met_some 2 true 75 rfl rfl (by kernel_rfl) (by kernel_rfl) rfl rfl) (.inl rfl) (by kernel_rfl) (by kernel_rfl) rfl ?_
                  refine Flow.pass_val (.pointer (some ⟨g, p, none⟩)) (Flow.met_some 2 true 75 rfl rfl (by kernel_rfl) (by kernel_rfl) rfl rfl) (fun a W hH => ?_) ?_
                  · have e0 := Flow.see_new 81 8 hH.sees (by kernel_rfl) (by kernel_rfl) rfl rfl
                    have e1 := Flow.see_new 82 9 hH.sees (by kernel_rfl) (by kernel_rfl) rfl rfl
                    exact s_ixS (s := 1) (p) _ rfl Try.underlying72 (by kernel_rfl) (by first | exact e0 | simpa [Act.eval] using e0 | (simp [Act.eval])) (by first | exact e1 | simpa [Act.eval] using e1 | (simp [Act.eval])) (by omega) (by omega) (by omega)
                  refine Flow.pass_val (.int .u64 ((d1[p]! : Nat) : Int)) (Flow.met_some 2 true 75 rfl rfl (by kernel_rfl) (by kernel_rfl) rfl rfl) (fun a W hH => ?_) ?_
                  · have e0 := Flow.see_new 83 10 hH.sees (by kernel_rfl) (by kernel_rfl) rfl rfl
                    have cc := nr_cell (hN_W3.below ((Below.refl W3.heap.size W3).drew.trans hH.below) hN_W3.lt) (p) (by omega); go_simp; first | done | rfl
                  refine Flow.pass_step (Reg.eqs (.bool (ltN (d1[(aa - 1)]!) (d1[p]!)))) (fun _ _ => Flow.kept_eqs _ _) (Flow.met_some 2 true 75 rfl rfl (by kernel_rfl) (by kernel_rfl) rfl rfl) (fun a W hH => ?_) ?_
                  · have e0 := Flow.see_new 80 7 hH.sees (by kernel_rfl) (by kernel_rfl) rfl rfl
                    have e1 := Flow.see_new 84 11 hH.sees (by kernel_rfl) (by kernel_rfl) rfl rfl
                    refine Reg.wp_call rfl Try.func77 rfl (by kernel_rfl) (by simp [Act.eval, e0, e1]) (lessN (d1[(aa - 1)]!) (d1[p]!) W) ?_
                    rintro e w' ⟨rfl, rfl⟩
                    exact ⟨_, rfl, _, rfl, Ext.refl _, rfl⟩
                  refine Flow.pass_val (.bool (!(ltN (d1[(aa - 1)]!) (d1[p]!)))) (Flow.met_some 2 true 75 rfl rfl (by kernel_rfl) (by kernel_rfl) rfl rfl) (fun a W hH => ?_) ?_
                  · have e0 := Flow.see_new 85 12 hH.sees (by kernel_rfl) (by kernel_rfl) rfl rfl
                    go_simp; first | done | rfl
                  refine Flow.pass_val (.bool (!(ltN (d1[(aa - 1)]!) (d1[p]!)))) (Flow.met_none rfl) (fun a W hH => ?_) ?_
                  · have e0 := Flow.see_new 75 2 hH.sees (by kernel_rfl) (by kernel_rfl) rfl rfl
                    have e1 := Flow.see_new 86 13 hH.sees (by kernel_rfl) (by kernel_rfl) rfl rfl
                    go_simp; first | done | rfl
                  refine Flow.pass_end [none, none, none, none, none, none, none, none, none, none, none, none, none, none, none, none, none, none, none, none, none, none, none, none, none, none, none, none, none, none, none, none, none, none, none, none, none, none, none, none, none, none, none, none, none, none, none, none, none, none, none, none, none, none, none, none, none, none, none, none, none, none, none, none, none, none, none, none, none, none, none, none, none, some 73, some 74, some 75, some 76, some 77, some 78, some 79, some 80, some 81, some 82, some 83, some 84, some 85, some 86, some 87, none, none, none, none, none, none, none, none, none, none, none, none, none, none, none, none, none, none, none, none, none, none, none, none, none, none, none, none, none, none, none, none, none, none, none, none, none, none, none, none, none, none, none, none, none, none] (by kernel_rfl) ?_
                  intro f gg w9 hB hfa hT hfg
                  have h87 : f 87 = _ := (hfg 87 14 (by kernel_rfl)).trans (hT 14 _ (by kernel_rfl) rfl)
                  exact hQ1 f w9 ⟨by rw [h87, decide_eq_true hg, Bool.true_and], (Below.refl W3.heap.size W3).drew.trans hB⟩
                · skip
                  refine Flow.wp_region_flow (W3.heap.size) [] [] (by kernel_rfl) (by kernel_rfl) (Nat.le_refl _) (fun _ h => by cases h) Flow.facts_nil ?_
                  refine Flow.pass_old (X := .int .i64 ((aa : Int))) 1 (Flow.met_none rfl) (.inl rfl) (by kernel_rfl) (by kernel_rfl) rfl ?_
                  refine Flow.pass_val (.bool false) (Flow.met_none rfl) (fun a W hH => ?_) ?_
                  · have e0 := Flow.see_new 73 0 hH.sees (by kernel_rfl) (by kernel_rfl) rfl rfl
                    go_simp; first | done | rfl | omega | (simp; done) | (simp; omega) | exact decide_eq_true (by omega) | exact decide_eq_false (by omega)
                  refine Flow.pass_copy 74 1 (Flow.met_none rfl) (.inl rfl) (by kernel_rfl) (by kernel_rfl) rfl rfl (fun _ _ => Flow.kept_eqs _ _) ?_
                  refine Flow.pass_skip (fun a W hH => Flow.not_wanted 2 true 75 hH rfl rfl (by kernel_rfl) (by kernel_rfl) rfl rfl) ?_
                  refine Flow.pass_skip (fun a W hH => Flow.not_wanted 2 true 75 hH rfl rfl (by kernel_rfl) (by kernel_rfl) rfl rfl) ?_
                  refine Flow.pass_skip (fun a W hH => Flow.not_wanted 2 true 75 hH rfl rfl (by kernel_rfl) (by kernel_rfl) rfl rfl) ?_
                  refine Flow.pass_skip (fun a W hH => Flow.not_wanted 2 true 75 hH rfl rfl (by kernel_rfl) (by kernel_rfl) rfl rfl) ?_
                  refine Flow.pass_skip (fun a W hH => Flow.not_wanted 2 true 75 hH rfl rfl (by kernel_rfl) (by kernel_rfl) rfl rfl) ?_
                  refine Flow.pass_skip (fun a W hH => Flow.not_wanted 2 true 75 hH rfl rfl (by kernel_rfl) (by kernel_rfl) rfl rfl) ?_
                  refine Flow.pass_skip (fun a W hH => Flow.not_wanted 2 true 75 hH rfl rfl (by kernel_rfl) (by kernel_rfl) rfl rfl) ?_
                  refine Flow.pass_skip (fun a W hH => Flow.not_wanted 2 true 75 hH rfl rfl (by kernel_rfl) (by kernel_rfl) rfl rfl) ?_
                  refine Flow.pass_skip (fun a W hH => Flow.not_wanted 2 true 75 hH rfl rfl (by kernel_rfl) (by kernel_rfl) rfl rfl) ?_
                  refine Flow.pass_skip (fun a W hH => Flow.not_wanted 2 true 75 hH rfl rfl (by kernel_rfl) (by kernel_rfl) rfl rfl) ?_
                  refine Flow.pass_skip (fun a W hH => Flow.not_wanted 2 true 75 hH rfl rfl (by kernel_rfl) (by kernel_rfl) rfl rfl) ?_
                  refine Flow.pass_val (.bool false) (Flow.met_none rfl) (fun a W hH => ?_) ?_
                  · have e0 := Flow.see_new 75 2 hH.sees (by kernel_rfl) (by kernel_rfl) rfl rfl
                    have e1 := Flow.see_new 86 13 hH.sees (by kernel_rfl) (by kernel_rfl) rfl rfl
                    go_simp; first | done | rfl
                  refine Flow.pass_end [none, none, none, none, none, none, none, none, none, none, none, none, none, none, none, none, none, none, none, none, none, none, none, none, none, none, none, none, none, none, none, none, none, none, none, none, none, none, none, none, none, none, none, none, none, none, none, none, none, none, none, none, none, none, none, none, none, none, none, none, none, none, none, none, none, none, none, none, none, none, none, none, none, some 73, some 74, some 75, some 76, some 77, some 78, some 79, some 80, some 81, some 82, some 83, some 84, some 85, some 86, some 87, none, none, none, none, none, none, none, none, none, none, none, none, none, none, none, none, none, none, none, none, none, none, none, none, none, none, none, none, none, none, none, none, none, none, none, none, none, none, none, none, none, none, none, none, none, none] (by kernel_rfl) ?_
                  intro f gg w9 hB hfa hT hfg
                  have h87 : f 87 = _ := (hfg 87 14 (by kernel_rfl)).trans (hT 14 _ (by kernel_rfl) rfl)
                  exact hQ1 f w9 ⟨by rw [h87, decide_eq_false hg, Bool.false_and], (Below.refl W3.heap.size W3).drew.trans hB⟩
              intro f Wt ⟨h87, hBWt⟩
              simp only [Reg.sel, h87]
              have hN_Wt := Blk.below hN_W3 hBWt (Blk.lt hN_W3)
              have hC_Wt := hC_W3.trans (Chg.of_ext hBWt)
              clear h87 hBWt
              cases hq : (decide (0 < aa) && !ltN d1[aa - 1]! d1[p]!) with
              | true =>
                have hq2 : 0 < aa ∧ ltN d1[aa - 1]! d1[p]! = false := by simpa using hq
                obtain ⟨z1, z2, z3⟩ := hI_d1.out.eq hq2.1 hp.1 hp.2 hq2.2
                have hcall := partitionEqual_walk g R d1 n cap aa bb p hI_d1.out.size hp.1 hp.2 hbn hn5 Wt hN_Wt
                generalize Sort.partitionEqual ltN d1 aa bb p = r at *
                obtain ⟨mid, d5⟩ := r
                have z1 : aa < mid := z1
                have z2 : mid ≤ bb := z2
                have z3 : PI mid bb n d5 G := z3
                have z3 := Lib.hid z3
                clear hq hq2
                go_wp2_with fail
                refine Calls.mono hcall ?_
                rintro e W7 ⟨rfl, hN7, hC7⟩
                clear hcall
                go_wp2
                go_roundw
                case rel => first | exact ⟨mid, bb, l, true, true, d5, rfl, rfl, rfl, rfl, rfl, by omega, z2, hbn, by omega, hl, z3, hN7, hC_Wt.trans hC7⟩ | ((repeat apply Exists.intro); refine ⟨?_, rfl⟩; exact ⟨mid, bb, l, true, true, d5, rfl, rfl, rfl, rfl, rfl, by omega, z2, hbn, by omega, hl, z3, hN7, hC_Wt.trans hC7⟩)
                case measure => first | (simp [intOf]; done) | (simp [intOf]; omega) | (simp only [intOf]; omega)
              | false =>
                obtain ⟨z1, z2, z3, z4, z5, z6, z7⟩ := hI_d1.out.part hp.1 hp.2
                have hcall := partition_walk g R d1 n cap aa bb p hI_d1.out.size hp.1 hp.2 hbn hn5 Wt hN_Wt
                generalize Sort.partition ltN d1 aa bb p = r at *
                obtain ⟨mid, ap, d5⟩ := r
                have z1 : aa ≤ mid := z1
                have z2 : mid < bb := z2
                have z3 : Sort.Below ltN aa mid d5 := z3
                have z4 : Sort.Below ltN (mid + 1) bb d5 := z4
                have z5 : d5.size = n := z5
                have z6 : ∀ L, Sort.PermIn aa mid d5 L → Sort.SortedIn ltN aa mid L → PI (mid + 1) bb n L G := z6
                have z7 : ∀ L, Sort.PermIn (mid + 1) bb d5 L → Sort.SortedIn ltN (mid + 1) bb L → PI aa mid n L G := z7
                have z6 := Lib.hid z6
                have z7 := Lib.hid z7
                have z3 := Lib.hid z3
                have z4 := Lib.hid z4
                clear hq
                go_wp2_with fail
                refine Calls.mono hcall ?_
                rintro e W7 ⟨rfl, hN7, hC7⟩
                have hC_W7 := hC_Wt.trans hC7
                have q1 : IntKind.i64.wrap ((mid : Int) - (aa : Int)) = (mid : Int) - (aa : Int) := IntWalk.i64_in _ (by omega)
                have q2 : IntKind.i64.wrap ((bb : Int) - (mid : Int)) = (bb : Int) - (mid : Int) := IntWalk.i64_in _ (by omega)
                have q3 : IntKind.i64.wrap ((mid : Int) + 1) = ((mid + 1 : Nat) : Int) := by rw [IntWalk.i64_in _ (by omega)]; omega
                clear hcall hC7 hC_Wt
                by_cases hlr : mid - aa < bb - mid
                · have hlri : (mid : Int) - (aa : Int) < (bb : Int) - (mid : Int) := by omega
                  have hrec := ih (mid - aa) (by omega) d5 aa mid l W7 rfl z5 z1 (by omega) hl z3.out hN7
                  go_wp2_with fail
                  refine Calls.mono hrec ?_
                  rintro e W8 ⟨rfl, d6, ⟨hp6, hs6⟩, hN8, hC8⟩
                  have hI6 := Lib.hid (z6.out d6 hp6 hs6)
                  clear hrec hp6 hs6
                  go_wp2
                  go_roundw
                  case rel => first | exact ⟨mid + 1, bb, l, _, ap, d6, by go_num, rfl, rfl, rfl, rfl, by omega, by omega, hbn, by omega, hl, hI6, hN8, hC_W7.trans hC8⟩ | ((repeat apply Exists.intro); refine ⟨?_, rfl⟩; exact ⟨mid + 1, bb, l, _, ap, d6, by go_num, rfl, rfl, rfl, rfl, by omega, by omega, hbn, by omega, hl, hI6, hN8, hC_W7.trans hC8⟩)
                  case measure => first | (simp [intOf]; done) | (simp [intOf]; omega) | (simp only [intOf]; omega)
                · have hlri : ¬ (mid : Int) - (aa : Int) < (bb : Int) - (mid : Int) := by omega
                  have hrec := ih (bb - (mid + 1)) (by omega) d5 (mid + 1) bb l W7 rfl z5 (by omega) hbn hl z4.out hN7
                  go_wp2_with fail
                  refine Calls.mono hrec ?_
                  rintro e W8 ⟨rfl, d6, ⟨hp6, hs6⟩, hN8, hC8⟩
                  have hI6 := Lib.hid (z7.out d6 hp6 hs6)
                  clear hrec hp6 hs6
                  go_wp2
                  go_roundw
                  case rel => first | exact ⟨aa, mid, l, _, ap, d6, rfl, rfl, rfl, rfl, rfl, hla, z1, by omega, by omega, hl, hI6, hN8, hC_W7.trans hC8⟩ | ((repeat apply Exists.intro); refine ⟨?_, rfl⟩; exact ⟨aa, mid, l, _, ap, d6, rfl, rfl, rfl, rfl, rfl, hla, z1, by omega, by omega, hl, hI6, hN8, hC_W7.trans hC8⟩)
                  case measure => first | (simp [intOf]; done) | (simp [intOf]; omega) | (simp only [intOf]; omega)
            · skip
              have hcall := partialIns_walk g R d1 n cap aa bb hI_d1.out.size (by omega) hbn hn5 W3 hN_W3
              obtain ⟨z1, z2⟩ := Sort.partialInsertionSort_holds (lt := ltN) swoN d1 aa bb (by omega) (by rw [hI_d1.out.size]; exact hbn) hI_d1.out.below
              have z2 := fun h => hI_d1.out.fin _ z1 (z2 h)
              have z1 := Lib.hid (hI_d1.out.perm z1)
              have z2 := Lib.hid z2
              generalize Sort.partialInsertionSort ltN d1 aa bb = r at *
              obtain ⟨d4, ok⟩ := r
              go_wp2_with fail
              refine Calls.mono hcall ?_
              rintro e W6 ⟨rfl, hN_W6, hC6⟩
              have hC_W6 := hC_W3.trans hC6
              have hI_d4 : Hid (PI aa bb n d4 G) := z1
              clear hcall hC6 z1
              cases ok with
              | true =>
                go_wp2
                refine bodyPost_ret (results_none rfl _ _ _) rfl ?_
                exact ⟨rfl, d4, HG.out _ (z2.out (by first | rfl | trivial)), hN_W6, hC_W6⟩
              | false =>
                clear z2
                go_wp2_with fail
                have hs_d4 : d4.size = n := hI_d4.out.size
                refine s_cut [none, none, none, none, none, none, none, none, none, none, none, none, none, none, none, none, none, none, none, none, none, none, none, none, none, none, none, none, none, none, none, none, none, none, none, none, none, none, none, none, none, none, none, none, none, none, none, none, none, none, none, none, none, none, none, none, none, none, none, none, none, none, none, none, none, none, none, none, none, none, none, none, none, some 73, some 74, some 75, some 76, some 77, some 78, some 79, some 80, some 81, some 82, some 83, some 84, some 85, some 86, some 87, none, none, none, none, none, none, none, none, none, none, none, none, none, none, none, none, none, none, none, none, none, none, none, none, none, none, none, none, none, none, none, none, none, none, none, none, none, none, none, none, none, none, none, none, none, none] (fun f W => f 87 = .bool (decide (0 < aa) && !ltN d4[aa - 1]! d4[p]!) ∧ Below W6.heap.size W6 W) (fun Q1 hQ1 => ?_) ?_
                · by_cases hg : 0 < aa
                  · skip
                    refine Flow.wp_region_flow (W6.heap.size) [] [] (by kernel_rfl) (by kernel_rfl) (Nat.le_refl _) (fun _ h => by cases h) Flow.facts_nil ?_
                    refine Flow.pass_old (X := .int .i64 ((aa : Int))) 1 (Flow.met_none rfl) (.inl rfl) (by kernel_rfl) (by kernel_rfl) rfl ?_
                    refine Flow.pass_val (.bool true) (Flow.met_none rfl) (fun a W hH => ?_) ?_
                    · have e0 := Flow.see_new 73 0 hH.sees (by kernel_rfl) (by kernel_rfl) rfl rfl
                      go_simp; first | done | rfl | omega | (simp; done) | (simp; omega) | exact decide_eq_true (by omega) | exact decide_eq_false (by omega)
                    refine Flow.pass_copy 74 1 (Flow.met_none rfl) (.inl rfl) (by kernel_rfl) (by kernel_rfl) rfl rfl (fun _ _ => Flow.kept_eqs _ _) ?_
                    refine Flow.pass_old (X := .slice (some ⟨g, 0, none⟩) n cap) 0 (Flow.met_some 2 true 75 rfl rfl (by kernel_rfl) (by kernel_rfl) rfl rfl) (.inl rfl) (by kernel_rfl) (by kernel_rfl) rfl ?_
                    refine Flow.pass_old (X := .int .i64 ((aa : Int))) 1 (Flow.met_some 2 true 75 rfl rfl (by kernel_rfl) (by kernel_rfl) rfl rfl) (.inl rfl) (by kernel_rfl) (by kernel_rfl) rfl ?_
                    refine Flow.pass_val (.int .i64 ((aa : Int) - 1)) (Flow.met_some 2 true 75 rfl rfl (by kernel_rfl) (by kernel_rfl) rfl rfl) (fun a W hH => ?_) ?_
                    · have e0 := Flow.see_new 77 4 hH.sees (by kernel_rfl) (by kernel_rfl) rfl rfl
                      go_simp; first | done | rfl | (rw [IntWalk.i64_in _ (by omega)]; first | done | rfl | omega | (simp; done))
                    refine Flow.pass_val (.pointer (some ⟨g, (aa - 1), none⟩)) (Flow.met_some 2 true 75 rfl rfl (by kernel_rfl) (by kernel_rfl) rfl rfl) (fun a W hH => ?_) ?_
                    · have e0 := Flow.see_new 76 3 hH.sees (by kernel_rfl) (by kernel_rfl) rfl rfl
                      have e1 := Flow.see_new 78 5 hH.sees (by kernel_rfl) (by kernel_rfl) rfl rfl
                      exact s_ixS (s := 1) ((aa - 1)) _ rfl Try.underlying72 (by kernel_rfl) (by first | exact e0 | simpa [Act.eval] using e0 | (simp [Act.eval])) (by first | exact e1 | simpa [Act.eval] using e1 | (simp [Act.eval])) (by omega) (by omega) (by omega)
                    refine Flow.pass_val (.int .u64 ((d4[(aa - 1)]! : Nat) : Int)) (Flow.met_some 2 true 75 rfl rfl (by kernel_rfl) (by kernel_rfl) rfl rfl) (fun a W hH => ?_) ?_
                    · have e0 := Flow.see_new 79 6 hH.sees (by kernel_rfl) (by kernel_rfl) rfl rfl
                      have cc := nr_cell (hN_W6.below ((Below.refl W6.heap.size W6).drew.trans hH.below) hN_W6.lt) ((aa - 1)) (by omega); go_simp; first | done | rfl
                    refine Flow.pass_old (X := .slice (some ⟨g, 0, none⟩) n cap) 0 (Flow.met_some 2 true 75 rfl rfl (by kernel_rfl) (by kernel_rfl) rfl rfl) (.inl rfl) (by kernel_rfl) (by kernel_rfl) rfl ?_
                    refine Flow.pass_old (X := .int .i64 ((p : Int))) 11 (Flow.met_some 2 true 75 rfl rfl (by kernel_rfl) (by kernel_rfl) rfl rfl) (.inl rfl) (by kernel_rfl) (by kernel_rfl) rfl ?_
                    refine Flow.pass_val (.pointer (some ⟨g, p, none⟩)) (Flow.met_some 2 true 75 rfl rfl (by kernel_rfl) (by kernel_rfl) rfl rfl) (fun a W hH => ?_) ?_
                    · have e0 := Flow.see_new 81 8 hH.sees (by kernel_rfl) (by kernel_rfl) rfl rfl
                      have e1 := Flow.see_new 82 9 hH.sees (by kernel_rfl) (by kernel_rfl) rfl rfl
                      exact s_ixS (s := 1) (p) _ rfl Try.underlying72 (by kernel_rfl) (by first | exact e0 | simpa [Act.eval] using e0 | (simp [Act.eval])) (by first | exact e1 | simpa [Act.eval] using e1 | (simp [Act.eval])) (by omega) (by omega) (by omega)
                    refine Flow.pass_val (.int .u64 ((d4[p]! : Nat) : Int)) (Flow.met_some 2 true 75 rfl rfl (by kernel_rfl) (by kernel_rfl) rfl rfl) (fun a W hH => ?_) ?_
                    · have e0 := Flow.see_new 83 10 hH.sees (by kernel_rfl) (by kernel_rfl) rfl rfl
                      have cc := nr_cell (hN_W6.below ((Below.refl W6.heap.size W6).drew.trans hH.below) hN_W6.lt) (p) (by omega); go_simp; first | done | rfl
                    refine Flow.pass_step (Reg.eqs (.bool (ltN (d4[(aa - 1)]!) (d4[p]!)))) (fun _ _ => Flow.kept_eqs _ _) (Flow.met_some 2 true 75 rfl rfl (by kernel_rfl) (by kernel_rfl) rfl rfl) (fun a W hH => ?_) ?_
                    · have e0 := Flow.see_new 80 7 hH.sees (by kernel_rfl) (by kernel_rfl) rfl rfl
                      have e1 := Flow.see_new 84 11 hH.sees (by kernel_rfl) (by kernel_rfl) rfl rfl
                      refine Reg.wp_call rfl Try.func77 rfl (by kernel_rfl) (by simp [Act.eval, e0, e1]) (lessN (d4[(aa - 1)]!) (d4[p]!) W) ?_
                      rintro e w' ⟨rfl, rfl⟩
                      exact ⟨_, rfl, _, rfl, Ext.refl _, rfl⟩
                    refine Flow.pass_val (.bool (!(ltN (d4[(aa - 1)]!) (d4[p]!)))) (Flow.met_some 2 true 75 rfl rfl (by kernel_rfl) (by kernel_rfl) rfl rfl) (fun a W hH => ?_) ?_
                    · have e0 := Flow.see_new 85 12 hH.sees (by kernel_rfl) (by kernel_rfl) rfl rfl
                      go_simp; first | done | rfl
                    refine Flow.pass_val (.bool (!(ltN (d4[(aa - 1)]!) (d4[p]!)))) (Flow.met_none rfl) (fun a W hH => ?_) ?_
                    · have e0 := Flow.see_new 75 2 hH.sees (by kernel_rfl) (by kernel_rfl) rfl rfl
                      have e1 := Flow.see_new 86 13 hH.sees (by kernel_rfl) (by kernel_rfl) rfl rfl
                      go_simp; first | done | rfl
                    refine Flow.pass_end [none, none, none, none, none, none, none, none, none, none, none, none, none, none, none, none, none, none, none, none, none, none, none, none, none, none, none, none, none, none, none, none, none, none, none, none, none, none, none, none, none, none, none, none, none, none, none, none, none, none, none, none, none, none, none, none, none, none, none, none, none, none, none, none, none, none, none, none, none, none, none, none, none, some 73, some 74, some 75, some 76, some 77, some 78, some 79, some 80, some 81, some 82, some 83, some 84, some 85, some 86, some 87, none, none, none, none, none, none, none, none, none, none, none, none, none, none, none, none, none, none, none, none, none, none, none, none, none, none, none, none, none, none, none, none, none, none, none, none, none, none, none, none, none, none, none, none, none, none] (by kernel_rfl) ?_
                    intro f gg w9 hB hfa hT hfg
                    have h87 : f 87 = _ := (hfg 87 14 (by kernel_rfl)).trans (hT 14 _ (by kernel_rfl) rfl)
                    exact hQ1 f w9 ⟨by rw [h87, decide_eq_true hg, Bool.true_and], (Below.refl W6.heap.size W6).drew.trans hB⟩
                  · skip
                    refine Flow.wp_region_flow (W6.heap.size) [] [] (by kernel_rfl) (by kernel_rfl) (Nat.le_refl _) (fun _ h => by cases h) Flow.facts_nil ?_
                    refine Flow.pass_old (X := .int .i64 ((aa : Int))) 1 (Flow.met_none rfl) (.inl rfl) (by kernel_rfl) (by kernel_rfl) rfl ?_
                    refine Flow.pass_val (.bool false) (Flow.met_none rfl) (fun a W hH => ?_) ?_
                    · have e0 := Flow.see_new 73 0 hH.sees (by kernel_rfl) (by kernel_rfl) rfl rfl
                      go_simp; first | done | rfl | omega | (simp; done) | (simp; omega) | exact decide_eq_true (by omega) | exact decide_eq_false (by omega)
                    refine Flow.pass_copy 74 1 (Flow.met_none rfl) (.inl rfl) (by kernel_rfl) (by kernel_rfl) rfl rfl (fun _ _ => Flow.kept_eqs _ _) ?_
                    refine Flow.pass_skip (fun a W hH => Flow.not_wanted 2 true 75 hH rfl rfl (by kernel_rfl) (by kernel_rfl) rfl rfl) ?_
                    refine Flow.pass_skip (fun a W hH => Flow.not_wanted 2 true 75 hH rfl rfl (by kernel_rfl) (by kernel_rfl) rfl rfl) ?_
                    refine Flow.pass_skip (fun a W hH => Flow.not_wanted 2 true 75 hH rfl rfl (by kernel_rfl) (by kernel_rfl) rfl rfl) ?_
                    refine Flow.pass_skip (fun a W hH => Flow.not_wanted 2 true 75 hH rfl rfl (by kernel_rfl) (by kernel_rfl) rfl rfl) ?_
                    refine Flow.pass_skip (fun a W hH => Flow.not_wanted 2 true 75 hH rfl rfl (by kernel_rfl) (by kernel_rfl) rfl rfl) ?_
                    refine Flow.pass_skip (fun a W hH => Flow.not_wanted 2 true 75 hH rfl rfl (by kernel_rfl) (by kernel_rfl) rfl rfl) ?_
                    refine Flow.pass_skip (fun a W hH => Flow.not_wanted 2 true 75 hH rfl rfl (by kernel_rfl) (by kernel_rfl) rfl rfl) ?_
                    refine Flow.pass_skip (fun a W hH => Flow.not_wanted 2 true 75 hH rfl rfl (by kernel_rfl) (by kernel_rfl) rfl rfl) ?_
                    refine Flow.pass_skip (fun a W hH => Flow.not_wanted 2 true 75 hH rfl rfl (by kernel_rfl) (by kernel_rfl) rfl rfl) ?_
                    refine Flow.pass_skip (fun a W hH => Flow.not_wanted 2 true 75 hH rfl rfl (by kernel_rfl) (by kernel_rfl) rfl rfl) ?_
                    refine Flow.pass_skip (fun a W hH => Flow.not_wanted 2 true 75 hH rfl rfl (by kernel_rfl) (by kernel_rfl) rfl rfl) ?_
                    refine Flow.pass_val (.bool false) (Flow.met_none rfl) (fun a W hH => ?_) ?_
                    · have e0 := Flow.see_new 75 2 hH.sees (by kernel_rfl) (by kernel_rfl) rfl rfl
                      have e1 := Flow.see_new 86 13 hH.sees (by kernel_rfl) (by kernel_rfl) rfl rfl
                      go_simp; first | done | rfl
                    refine Flow.pass_end [none, none, none, none, none, none, none, none, none, none, none, none, none, none, none, none, none, none, none, none, none, none, none, none, none, none, none, none, none, none, none, none, none, none, none, none, none, none, none, none, none, none, none, none, none, none, none, none, none, none, none, none, none, none, none, none, none, none, none, none, none, none, none, none, none, none, none, none, none, none, none, none, none, some 73, some 74, some 75, some 76, some 77, some 78, some 79, some 80, some 81, some 82, some 83, some 84, some 85, some 86, some 87, none, none, none, none, none, none, none, none, none, none, none, none, none, none, none, none, none, none, none, none, none, none, none, none, none, none, none, none, none, none, none, none, none, none, none, none, none, none, none, none, none, none, none, none, none, none] (by kernel_rfl) ?_
                    intro f gg w9 hB hfa hT hfg
                    have h87 : f 87 = _ := (hfg 87 14 (by kernel_rfl)).trans (hT 14 _ (by kernel_rfl) rfl)
                    exact hQ1 f w9 ⟨by rw [h87, decide_eq_false hg, Bool.false_and], (Below.refl W6.heap.size W6).drew.trans hB⟩
                intro f Wt ⟨h87, hBWt⟩
                simp only [Reg.sel, h87]
                have hN_Wt := Blk.below hN_W6 hBWt (Blk.lt hN_W6)
                have hC_Wt := hC_W6.trans (Chg.of_ext hBWt)
                clear h87 hBWt
                cases hq : (decide (0 < aa) && !ltN d4[aa - 1]! d4[p]!) with
                | true =>
                  have hq2 : 0 < aa ∧ ltN d4[aa - 1]! d4[p]! = false := by simpa using hq
                  obtain ⟨z1, z2, z3⟩ := hI_d4.out.eq hq2.1 hp.1 hp.2 hq2.2
                  have hcall := partitionEqual_walk g R d4 n cap aa bb p hI_d4.out.size hp.1 hp.2 hbn hn5 Wt hN_Wt
                  generalize Sort.partitionEqual ltN d4 aa bb p = r at *
                  obtain ⟨mid, d5⟩ := r
                  have z1 : aa < mid := z1
                  have z2 : mid ≤ bb := z2
                  have z3 : PI mid bb n d5 G := z3
                  have z3 := Lib.hid z3
                  clear hq hq2
                  go_wp2_with fail
                  refine Calls.mono hcall ?_
                  rintro e W7 ⟨rfl, hN7, hC7⟩
                  clear hcall
                  go_wp2
                  go_roundw
                  case rel => first | exact ⟨mid, bb, l, true, true, d5, rfl, rfl, rfl, rfl, rfl, by omega, z2, hbn, by omega, hl, z3, hN7, hC_Wt.trans hC7⟩ | ((repeat apply Exists.intro); refine ⟨?_, rfl⟩; exact ⟨mid, bb, l, true, true, d5, rfl, rfl, rfl, rfl, rfl, by omega, z2, hbn, by omega, hl, z3, hN7, hC_Wt.trans hC7⟩)
                  case measure => first | (simp [intOf]; done) | (simp [intOf]; omega) | (simp only [intOf]; omega)
                | false =>
                  obtain ⟨z1, z2, z3, z4, z5, z6, z7⟩ := hI_d4.out.part hp.1 hp.2
                  have hcall := partition_walk g R d4 n cap aa bb p hI_d4.out.size hp.1 hp.2 hbn hn5 Wt hN_Wt
                  generalize Sort.partition ltN d4 aa bb p = r at *
                  obtain ⟨mid, ap, d5⟩ := r
                  have z1 : aa ≤ mid := z1
                  have z2 : mid < bb := z2
                  have z3 : Sort.Below ltN aa mid d5 := z3
                  have z4 : Sort.Below ltN (mid + 1) bb d5 := z4
                  have z5 : d5.size = n := z5
                  have z6 : ∀ L, Sort.PermIn aa mid d5 L → Sort.SortedIn ltN aa mid L → PI (mid + 1) bb n L G := z6
                  have z7 : ∀ L, Sort.PermIn (mid + 1) bb d5 L → Sort.SortedIn ltN (mid + 1) bb L → PI aa mid n L G := z7
                  have z6 := Lib.hid z6
                  have z7 := Lib.hid z7
                  have z3 := Lib.hid z3
                  have z4 := Lib.hid z4
                  clear hq
                  go_wp2_with fail
                  refine Calls.mono hcall ?_
                  rintro e W7 ⟨rfl, hN7, hC7⟩
                  have hC_W7 := hC_Wt.trans hC7
                  have q1 : IntKind.i64.wrap ((mid : Int) - (aa : Int)) = (mid : Int) - (aa : Int) := IntWalk.i64_in _ (by omega)
                  have q2 : IntKind.i64.wrap ((bb : Int) - (mid : Int)) = (bb : Int) - (mid : Int) := IntWalk.i64_in _ (by omega)
                  have q3 : IntKind.i64.wrap ((mid : Int) + 1) = ((mid + 1 : Nat) : Int) := by rw [IntWalk.i64_in _ (by omega)]; omega
                  clear hcall hC7 hC_Wt
                  by_cases hlr : mid - aa < bb - mid
                  · have hlri : (mid : Int) - (aa : Int) < (bb : Int) - (mid : Int) := by omega
                    have hrec := ih (mid - aa) (by omega) d5 aa mid l W7 rfl z5 z1 (by omega) hl z3.out hN7
                    go_wp2_with fail
                    refine Calls.mono hrec ?_
                    rintro e W8 ⟨rfl, d6, ⟨hp6, hs6⟩, hN8, hC8⟩
                    have hI6 := Lib.hid (z6.out d6 hp6 hs6)
                    clear hrec hp6 hs6
                    go_wp2
                    go_roundw
                    case rel => first | exact ⟨mid + 1, bb, l, _, ap, d6, by go_num, rfl, rfl, rfl, rfl, by omega, by omega, hbn, by omega, hl, hI6, hN8, hC_W7.trans hC8⟩ | ((repeat apply Exists.intro); refine ⟨?_, rfl⟩; exact ⟨mid + 1, bb, l, _, ap, d6, by go_num, rfl, rfl, rfl, rfl, by omega, by omega, hbn, by omega, hl, hI6, hN8, hC_W7.trans hC8⟩)
                    case measure => first | (simp [intOf]; done) | (simp [intOf]; omega) | (simp only [intOf]; omega)
                  · have hlri : ¬ (mid : Int) - (aa : Int) < (bb : Int) - (mid : Int) := by omega
                    have hrec := ih (bb - (mid + 1)) (by omega) d5 (mid + 1) bb l W7 rfl z5 (by omega) hbn hl z4.out hN7
                    go_wp2_with fail
                    refine Calls.mono hrec ?_
                    rintro e W8 ⟨rfl, d6, ⟨hp6, hs6⟩, hN8, hC8⟩
                    have hI6 := Lib.hid (z7.out d6 hp6 hs6)
                    clear hrec hp6 hs6
                    go_wp2
                    go_roundw
                    case rel => first | exact ⟨aa, mid, l, _, ap, d6, rfl, rfl, rfl, rfl, rfl, hla, z1, by omega, by omega, hl, hI6, hN8, hC_W7.trans hC8⟩ | ((repeat apply Exists.intro); refine ⟨?_, rfl⟩; exact ⟨aa, mid, l, _, ap, d6, rfl, rfl, rfl, rfl, rfl, hla, z1, by omega, by omega, hl, hI6, hN8, hC_W7.trans hC8⟩)
                    case measure => first | (simp [intOf]; done) | (simp [intOf]; omega) | (simp only [intOf]; omega)
            · skip
              have hcall := reverseRange_walk g R d1 n cap aa bb hI_d1.out.size (by omega) hbn hn5 W3 hN_W3
              obtain ⟨p2, hp2e⟩ : ∃ q, bb - 1 - (p - aa) = q := ⟨_, rfl⟩
              have hp2 : aa ≤ p2 ∧ p2 < bb := by omega
              have u1 : IntKind.i64.wrap ((bb : Int) - 1) = (bb : Int) - 1 := IntWalk.i64_in _ (by omega)
              have u2 : IntKind.i64.wrap ((p : Int) - (aa : Int)) = (p : Int) - (aa : Int) := IntWalk.i64_in _ (by omega)
              have u3 : IntKind.i64.wrap ((bb : Int) - 1 - ((p : Int) - (aa : Int))) = (p2 : Int) := by rw [IntWalk.i64_in _ (by omega)]; omega
              clear hp2e
              go_wp2_with fail
              refine Calls.mono hcall ?_
              rintro e W5 ⟨rfl, d3, hpm, hN_W5, hC5⟩
              have hC_W5 := hC_W3.trans hC5
              have hI_d3 := Lib.hid (hI_d1.out.perm hpm)
              clear hcall hC5 hpm hN_W3 hC_W3
              have hcall := partialIns_walk g R d3 n cap aa bb hI_d3.out.size (by omega) hbn hn5 W5 hN_W5
              obtain ⟨z1, z2⟩ := Sort.partialInsertionSort_holds (lt := ltN) swoN d3 aa bb (by omega) (by rw [hI_d3.out.size]; exact hbn) hI_d3.out.below
              have z2 := fun h => hI_d3.out.fin _ z1 (z2 h)
              have z1 := Lib.hid (hI_d3.out.perm z1)
              have z2 := Lib.hid z2
              generalize Sort.partialInsertionSort ltN d3 aa bb = r at *
              obtain ⟨d4, ok⟩ := r
              go_wp2_with fail
              refine Calls.mono hcall ?_
              rintro e W6 ⟨rfl, hN_W6, hC6⟩
              have hC_W6 := hC_W5.trans hC6
              have hI_d4 : Hid (PI aa bb n d4 G) := z1
              clear hcall hC6 z1
              cases ok with
              | true =>
                go_wp2
                refine bodyPost_ret (results_none rfl _ _ _) rfl ?_
                exact ⟨rfl, d4, HG.out _ (z2.out (by first | rfl | trivial)), hN_W6, hC_W6⟩
              | false =>
                clear z2
                go_wp2_with fail
                have hs_d4 : d4.size = n := hI_d4.out.size
                refine s_cut [none, none, none, none, none, none, none, none, none, none, none, none, none, none, none, none, none, none, none, none, none, none, none, none, none, none, none, none, none, none, none, none, none, none, none, none, none, none, none, none, none, none, none, none, none, none, none, none, none, none, none, none, none, none, none, none, none, none, none, none, none, none, none, none, none, none, none, none, none, none, none, none, none, some 73, some 74, some 75, some 76, some 77, some 78, some 79, some 80, some 81, some 82, some 83, some 84, some 85, some 86, some 87, none, none, none, none, none, none, none, none, none, none, none, none, none, none, none, none, none, none, none, none, none, none, none, none, none, none, none, none, none, none, none, none, none, none, none, none, none, none, none, none, none, none, none, none, none, none] (fun f W => f 87 = .bool (decide (0 < aa) && !ltN d4[aa - 1]! d4[p2]!) ∧ Below W6.heap.size W6 W) (fun Q1 hQ1 => ?_) ?_
                · by_cases hg : 0 < aa
                  · skip
                    refine Flow.wp_region_flow (W6.heap.size) [] [] (by kernel_rfl) (by kernel_rfl) (Nat.le_refl _) (fun _ h => by cases h) Flow.facts_nil ?_
                    refine Flow.pass_old (X := .int .i64 ((aa : Int))) 1 (Flow.met_none rfl) (.inl rfl) (by kernel_rfl) (by kernel_rfl) rfl ?_
                    refine Flow.pass_val (.bool true) (Flow.met_none rfl) (fun a W hH => ?_) ?_
                    · have e0 := Flow.see_new 73 0 hH.sees (by kernel_rfl) (by kernel_rfl) rfl rfl
                      go_simp; first | done | rfl | omega | (simp; done) | (simp; omega) | exact decide_eq_true (by omega) | exact decide_eq_false (by omega)
                    refine Flow.pass_copy 74 1 (Flow.met_none rfl) (.inl rfl) (by kernel_rfl) (by kernel_rfl) rfl rfl (fun _ _ => Flow.kept_eqs _ _) ?_
                    refine Flow.pass_old (X := .slice (some ⟨g, 0, none⟩) n cap) 0 (Flow.met_some 2 true 75 rfl rfl (by kernel_rfl) (by kernel_rfl) rfl rfl) (.inl rfl) (by kernel_rfl) (by kernel_rfl) rfl ?_
                    refine Flow.pass_old (X := .int .i64 ((aa : Int))) 1 (Flow.met_some 2 true 75 rfl rfl (by kernel_rfl) (by kernel_rfl) rfl rfl) (.inl rfl) (by kernel_rfl) (by kernel_rfl) rfl ?_
                    refine Flow.pass_val (.int .i64 ((aa : Int) - 1)) (Flow.met_some 2 true 75 rfl rfl (by kernel_rfl) (by kernel_rfl) rfl rfl) (fun a W hH => ?_) ?_
                    · have e0 := Flow.see_new 77 4 hH.sees (by kernel_rfl) (by kernel_rfl) rfl rfl
                      go_simp; first | done | rfl | (rw [IntWalk.i64_in _ (by omega)]; first | done | rfl | omega | (simp; done))
                    refine Flow.pass_val (.pointer (some ⟨g, (aa - 1), none⟩)) (Flow.met_some 2 true 75 rfl rfl (by kernel_rfl) (by kernel_rfl) rfl rfl) (fun a W hH => ?_) ?_
                    · have e0 := Flow.see_new 76 3 hH.sees (by kernel_rfl) (by kernel_rfl) rfl rfl
                      have e1 := Flow.see_new 78 5 hH.sees (by kernel_rfl) (by kernel_rfl) rfl rfl
                      exact s_ixS (s := 1) ((aa - 1)) _ rfl Try.underlying72 (by kernel_rfl) (by first | exact e0 | simpa [Act.eval] using e0 | (simp [Act.eval])) (by first | exact e1 | simpa [Act.eval] using e1 | (simp [Act.eval])) (by omega) (by omega) (by omega)
                    refine Flow.pass_val (.int .u64 ((d4[(aa - 1)]! : Nat) : Int)) (Flow.met_some 2 true 75 rfl rfl (by kernel_rfl) (by kernel_rfl) rfl rfl) (fun a W hH => ?_) ?_
                    · have e0 := Flow.see_new 79 6 hH.sees (by kernel_rfl) (by kernel_rfl) rfl rfl
                      have cc := nr_cell (hN_W6.below ((Below.refl W6.heap.size W6).drew.trans hH.below) hN_W6.lt) ((aa - 1)) (by omega); go_simp; first | done | rfl
                    refine Flow.pass_old (X := .slice (some ⟨g, 0, none⟩) n cap) 0 (Flow.met_some 2 true 75 rfl rfl (by kernel_rfl) (by kernel_rfl) rfl rfl) (.inl rfl) (by kernel_rfl) (by kernel_rfl) rfl ?_
                    refine Flow.pass_old (X := .int .i64 ((p2 : Int))) 11 (Flow.met_some 2 true 75 rfl rfl (by kernel_rfl) (by kernel_rfl) rfl rfl) (.inl rfl) (by kernel_rfl) (by kernel_rfl) rfl ?_
                    refine Flow.pass_val (.pointer (some ⟨g, p2, none⟩)) (Flow.met_some 2 true 75 rfl rfl (by kernel_rfl) (by kernel_rfl) rfl rfl) (fun a W hH => ?_) ?_
                    · have e0 := Flow.see_new 81 8 hH.sees (by kernel_rfl) (by kernel_rfl) rfl rfl
                      have e1 := Flow.see_new 82 9 hH.sees (by kernel_rfl) (by kernel_rfl) rfl rfl
                      exact s_ixS (s := 1) (p2) _ rfl Try.underlying72 (by kernel_rfl) (by first | exact e0 | simpa [Act.eval] using e0 | (simp [Act.eval])) (by first | exact e1 | simpa [Act.eval] using e1 | (simp [Act.eval])) (by omega) (by omega) (by omega)
                    refine Flow.pass_val (.int .u64 ((d4[p2]! : Nat) : Int)) (Flow.met_some 2 true 75 rfl rfl (by kernel_rfl) (by kernel_rfl) rfl rfl) (fun a W hH => ?_) ?_
                    · have e0 := Flow.see_new 83 10 hH.sees (by kernel_rfl) (by kernel_rfl) rfl rfl
                      have cc := nr_cell (hN_W6.below ((Below.refl W6.heap.size W6).drew.trans hH.below) hN_W6.lt) (p2) (by omega); go_simp; first | done | rfl
                    refine Flow.pass_step (Reg.eqs (.bool (ltN (d4[(aa - 1)]!) (d4[p2]!)))) (fun _ _ => Flow.kept_eqs _ _) (Flow.met_some 2 true 75 rfl rfl (by kernel_rfl) (by kernel_rfl) rfl rfl) (fun a W hH => ?_) ?_
                    · have e0 := Flow.see_new 80 7 hH.sees (by kernel_rfl) (by kernel_rfl) rfl rfl
                      have e1 := Flow.see_new 84 11 hH.sees (by kernel_rfl) (by kernel_rfl) rfl rfl
                      refine Reg.wp_call rfl Try.func77 rfl (by kernel_rfl) (by simp [Act.eval, e0, e1]) (lessN (d4[(aa - 1)]!) (d4[p2]!) W) ?_
                      rintro e w' ⟨rfl, rfl⟩
                      exact ⟨_, rfl, _, rfl, Ext.refl _, rfl⟩
                    refine Flow.pass_val (.bool (!(ltN (d4[(aa - 1)]!) (d4[p2]!)))) (Flow.met_some 2 true 75 rfl rfl (by kernel_rfl) (by kernel_rfl) rfl rfl) (fun a W hH => ?_) ?_
                    · have e0 := Flow.see_new 85 12 hH.sees (by kernel_rfl) (by kernel_rfl) rfl rfl
                      go_simp; first | done | rfl
                    refine Flow.pass_val (.bool (!(ltN (d4[(aa - 1)]!) (d4[p2]!)))) (Flow.met_none rfl) (fun a W hH => ?_) ?_
                    · have e0 := Flow.see_new 75 2 hH.sees (by kernel_rfl) (by kernel_rfl) rfl rfl
                      have e1 := Flow.see_new 86 13 hH.sees (by kernel_rfl) (by kernel_rfl) rfl rfl
                      go_simp; first | done | rfl
                    refine Flow.pass_end [none, none, none, none, none, none, none, none, none, none, none, none, none, none, none, none, none, none, none, none, none, none, none, none, none, none, none, none, none, none, none, none, none, none, none, none, none, none, none, none, none, none, none, none, none, none, none, none, none, none, none, none, none, none, none, none, none, none, none, none, none, none, none, none, none, none, none, none, none, none, none, none, none, some 73, some 74, some 75, some 76, some 77, some 78, some 79, some 80, some 81, some 82, some 83, some 84, some 85, some 86, some 87, none, none, none, none, none, none, none, none, none, none, none, none, none, none, none, none, none, none, none, none, none, none, none, none, none, none, none, none, none, none, none, none, none, none, none, none, none, none, none, none, none, none, none, none, none, none] (by kernel_rfl) ?_
                    intro f gg w9 hB hfa hT hfg
                    have h87 : f 87 = _ := (hfg 87 14 (by kernel_rfl)).trans (hT 14 _ (by kernel_rfl) rfl)
                    exact hQ1 f w9 ⟨by rw [h87, decide_eq_true hg, Bool.true_and], (Below.refl W6.heap.size W6).drew.trans hB⟩
                  · skip
                    refine Flow.wp_region_flow (W6.heap.size) [] [] (by kernel_rfl) (by kernel_rfl) (Nat.le_refl _) (fun _ h => by cases h) Flow.facts_nil ?_
                    refine Flow.pass_old (X := .int .i64 ((aa : Int))) 1 (Flow.met_none rfl) (.inl rfl) (by kernel_rfl) (by kernel_rfl) rfl ?_
                    refine Flow.pass_val (.bool false) (Flow.met_none rfl) (fun a W hH => ?_) ?_
                    · have e0 := Flow.see_new 73 0 hH.sees (by kernel_rfl) (by kernel_rfl) rfl rfl
                      go_simp; first | done | rfl | omega | (simp; done) | (simp; omega) | exact decide_eq_true (by omega) | exact decide_eq_false (by omega)
                    refine Flow.pass_copy 74 1 (Flow.met_none rfl) (.inl rfl) (by kernel_rfl) (by kernel_rfl) rfl rfl (fun _ _ => Flow.kept_eqs _ _) ?_
                    refine Flow.pass_skip (fun a W hH => Flow.not_wanted 2 true 75 hH rfl rfl (by kernel_rfl) (by kernel_rfl) rfl rfl) ?_
                    refine Flow.pass_skip (fun a W hH => Flow.not_wanted 2 true 75 hH rfl rfl (by kernel_rfl) (by kernel_rfl) rfl rfl) ?_
                    refine Flow.pass_skip (fun a W hH => Flow.not_wanted 2 true 75 hH rfl rfl (by kernel_rfl) (by kernel_rfl) rfl rfl) ?_
                    refine Flow.pass_skip (fun a W hH => Flow.not_wanted 2 true 75 hH rfl rfl (by kernel_rfl) (by kernel_rfl) rfl rfl) ?_
                    refine Flow.pass_skip (fun a W hH => Flow.not_wanted 2 true 75 hH rfl rfl (by kernel_rfl) (by kernel_rfl) rfl rfl) ?_
                    refine Flow.pass_skip (fun a W hH => Flow.not_wanted 2 true 75 hH rfl rfl (by kernel_rfl) (by kernel_rfl) rfl rfl) ?_
                    refine Flow.pass_skip (fun a W hH => Flow.not_wanted 2 true 75 hH rfl rfl (by kernel_rfl) (by kernel_rfl) rfl rfl) ?_
                    refine Flow.pass_skip (fun a W hH => Flow.not_wanted 2 true 75 hH rfl rfl (by kernel_rfl) (by kernel_rfl) rfl rfl) ?_
                    refine Flow.pass_skip (fun a W hH => Flow.not_wanted 2 true 75 hH rfl rfl (by kernel_rfl) (by kernel_rfl) rfl rfl) ?_
                    refine Flow.pass_skip (fun a W hH => Flow.not_wanted 2 true 75 hH rfl rfl (by kernel_rfl) (by kernel_rfl) rfl rfl) ?_
                    refine Flow.pass_skip (fun a W hH => Flow.not_wanted 2 true 75 hH rfl rfl (by kernel_rfl) (by kernel_rfl) rfl rfl) ?_
                    refine Flow.pass_val (.bool false) (Flow.met_none rfl) (fun a W hH => ?_) ?_
                    · have e0 := Flow.see_new 75 2 hH.sees (by kernel_rfl) (by kernel_rfl) rfl rfl
                      have e1 := Flow.see_new 86 13 hH.sees (by kernel_rfl) (by kernel_rfl) rfl rfl
                      go_simp; first | done | rfl
                    refine Flow.pass_end [none, none, none, none, none, none, none, none, none, none, none, none, none, none, none, none, none, none, none, none, none, none, none, none, none, none, none, none, none, none, none, none, none, none, none, none, none, none, none, none, none, none, none, none, none, none, none, none, none, none, none, none, none, none, none, none, none, none, none, none, none, none, none, none, none, none, none, none, none, none, none, none, none, some 73, some 74, some 75, some 76, some 77, some 78, some 79, some 80, some 81, some 82, some 83, some 84, some 85, some 86, some 87, none, none, none, none, none, none, none, none, none, none, none, none, none, none, none, none, none, none, none, none, none, none, none, none, none, none, none, none, none, none, none, none, none, none, none, none, none, none, none, none, none, none, none, none, none, none] (by kernel_rfl) ?_
                    intro f gg w9 hB hfa hT hfg
                    have h87 : f 87 = _ := (hfg 87 14 (by kernel_rfl)).trans (hT 14 _ (by kernel_rfl) rfl)
                    exact hQ1 f w9 ⟨by rw [h87, decide_eq_false hg, Bool.false_and], (Below.refl W6.heap.size W6).drew.trans hB⟩
                intro f Wt ⟨h87, hBWt⟩
                simp only [Reg.sel, h87]
                have hN_Wt := Blk.below hN_W6 hBWt (Blk.lt hN_W6)
                have hC_Wt := hC_W6.trans (Chg.of_ext hBWt)
                clear h87 hBWt
                cases hq : (decide (0 < aa) && !ltN d4[aa - 1]! d4[p2]!) with
                | true =>
                  have hq2 : 0 < aa ∧ ltN d4[aa - 1]! d4[p2]! = false := by simpa using hq
                  obtain ⟨z1, z2, z3⟩ := hI_d4.out.eq hq2.1 hp2.1 hp2.2 hq2.2
                  have hcall := partitionEqual_walk g R d4 n cap aa bb p2 hI_d4.out.size hp2.1 hp2.2 hbn hn5 Wt hN_Wt
                  generalize Sort.partitionEqual ltN d4 aa bb p2 = r at *
                  obtain ⟨mid, d5⟩ := r
                  have z1 : aa < mid := z1
                  have z2 : mid ≤ bb := z2
                  have z3 : PI mid bb n d5 G := z3
                  have z3 := Lib.hid z3
                  clear hq hq2
                  go_wp2_with fail
                  refine Calls.mono hcall ?_
                  rintro e W7 ⟨rfl, hN7, hC7⟩
                  clear hcall
                  go_wp2
                  go_roundw
                  case rel => first | exact ⟨mid, bb, l, true, true, d5, rfl, rfl, rfl, rfl, rfl, by omega, z2, hbn, by omega, hl, z3, hN7, hC_Wt.trans hC7⟩ | ((repeat apply Exists.intro); refine ⟨?_, rfl⟩; exact ⟨mid, bb, l, true, true, d5, rfl, rfl, rfl, rfl, rfl, by omega, z2, hbn, by omega, hl, z3, hN7, hC_Wt.trans hC7⟩)
                  case measure => first | (simp [intOf]; done) | (simp [intOf]; omega) | (simp only [intOf]; omega)
                | false =>
                  obtain ⟨z1, z2, z3, z4, z5, z6, z7⟩ := hI_d4.out.part hp2.1 hp2.2
                  have hcall := partition_walk g R d4 n cap aa bb p2 hI_d4.out.size hp2.1 hp2.2 hbn hn5 Wt hN_Wt
                  generalize Sort.partition ltN d4 aa bb p2 = r at *
                  obtain ⟨mid, ap, d5⟩ := r
                  have z1 : aa ≤ mid := z1
                  have z2 : mid < bb := z2
                  have z3 : Sort.Below ltN aa mid d5 := z3
                  have z4 : Sort.Below ltN (mid + 1) bb d5 := z4
                  have z5 : d5.size = n := z5
                  have z6 : ∀ L, Sort.PermIn aa mid d5 L → Sort.SortedIn ltN aa mid L → PI (mid + 1) bb n L G := z6
                  have z7 : ∀ L, Sort.PermIn (mid + 1) bb d5 L → Sort.SortedIn ltN (mid + 1) bb L → PI aa mid n L G := z7
                  have z6 := Lib.hid z6
                  have z7 := Lib.hid z7
                  have z3 := Lib.hid z3
                  have z4 := Lib.hid z4
                  clear hq
                  go_wp2_with fail
                  refine Calls.mono hcall ?_
                  rintro e W7 ⟨rfl, hN7, hC7⟩
                  have hC_W7 := hC_Wt.trans hC7
                  have q1 : IntKind.i64.wrap ((mid : Int) - (aa : Int)) = (mid : Int) - (aa : Int) := IntWalk.i64_in _ (by omega)
                  have q2 : IntKind.i64.wrap ((bb : Int) - (mid : Int)) = (bb : Int) - (mid : Int) := IntWalk.i64_in _ (by omega)
                  have q3 : IntKind.i64.wrap ((mid : Int) + 1) = ((mid + 1 : Nat) : Int) := by rw [IntWalk.i64_in _ (by omega)]; omega
                  clear hcall hC7 hC_Wt
                  by_cases hlr : mid - aa < bb - mid
                  · have hlri : (mid : Int) - (aa : Int) < (bb : Int) - (mid : Int) := by omega
                    have hrec := ih (mid - aa) (by omega) d5 aa mid l W7 rfl z5 z1 (by omega) hl z3.out hN7
                    go_wp2_with fail
                    refine Calls.mono hrec ?_
                    rintro e W8 ⟨rfl, d6, ⟨hp6, hs6⟩, hN8, hC8⟩
                    have hI6 := Lib.hid (z6.out d6 hp6 hs6)
                    clear hrec hp6 hs6
                    go_wp2
                    go_roundw
                    case rel => first | exact ⟨mid + 1, bb, l, _, ap, d6, by go_num, rfl, rfl, rfl, rfl, by omega, by omega, hbn, by omega, hl, hI6, hN8, hC_W7.trans hC8⟩ | ((repeat apply Exists.intro); refine ⟨?_, rfl⟩; exact ⟨mid + 1, bb, l, _, ap, d6, by go_num, rfl, rfl, rfl, rfl, by omega, by omega, hbn, by omega, hl, hI6, hN8, hC_W7.trans hC8⟩)
                    case measure => first | (simp [intOf]; done) | (simp [intOf]; omega) | (simp only [intOf]; omega)
                  · have hlri : ¬ (mid : Int) - (aa : Int) < (bb : Int) - (mid : Int) := by omega
                    have hrec := ih (bb - (mid + 1)) (by omega) d5 (mid + 1) bb l W7 rfl z5 (by omega) hbn hl z4.out hN7
                    go_wp2_with fail
                    refine Calls.mono hrec ?_
                    rintro e W8 ⟨rfl, d6, ⟨hp6, hs6⟩, hN8, hC8⟩
                    have hI6 := Lib.hid (z7.out d6 hp6 hs6)
                    clear hrec hp6 hs6
                    go_wp2
                    go_roundw
                    case rel => first | exact ⟨aa, mid, l, _, ap, d6, rfl, rfl, rfl, rfl, rfl, hla, z1, by omega, by omega, hl, hI6, hN8, hC_W7.trans hC8⟩ | ((repeat apply Exists.intro); refine ⟨?_, rfl⟩; exact ⟨aa, mid, l, _, ap, d6, rfl, rfl, rfl, rfl, rfl, hla, z1, by omega, by omega, hl, hI6, hN8, hC_W7.trans hC8⟩)
                    case measure => first | (simp [intOf]; done) | (simp [intOf]; omega) | (simp only [intOf]; omega)
end Go.Proofs.Ytjfmgoickokbjaa
