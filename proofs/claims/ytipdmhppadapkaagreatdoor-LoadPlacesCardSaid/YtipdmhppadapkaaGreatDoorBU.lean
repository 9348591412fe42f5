/-
  Parts: SrtJ SrtK SrtL SrtM.
-/
import Derived.Test.YtipdmhppadapkaaGreatDoorBT
import Derived.Test.YtipdmhppadapkaaGreatDoorBM
import Derived.RangeFuncNested
import Derived.RangeFuncBound
import Derived.RangeFuncCalls
import Derived.RangeFuncLeaves
import Derived.RangeFuncFrom
import Derived.RangeFuncSeq
import Derived.RangeFuncMany
import Derived.Shelf.Abstract
import Derived.Shelf.RegionOpen
import Derived.Shelf.AbstractIn
import Derived.Sort.MapsRangeIn
import Derived.WalkKit
import Derived.OwnWalkIn
import Derived.TacticsInMore
import Derived.LoopNIn
import Derived.LoopIn
/-
  Walk: pdqsortOrdered at uint64.
-/
namespace Go.Proofs.YtipdmhppadapkaaGreatDoor
open Go.RowKit

/-- what stands of the sort: once [aa, bb) is sorted, all is -/
structure PI (aa bb n : Nat) (d : Array Nat) (G : Array Nat → Prop) : Prop where
  below : Sort.Below ltN aa bb d
  size : d.size = n
  le : bb ≤ n
  fin : ∀ X, Sort.PermIn aa bb d X → Sort.SortedIn ltN aa bb X → G X
namespace PI
variable {aa bb n p : Nat} {d d2 : Array Nat} {G : Array Nat → Prop}
theorem perm (h : PI aa bb n d G) (hp : Sort.PermIn aa bb d d2) : PI aa bb n d2 G :=
  ⟨h.below.perm (by rw [h.size]; exact h.le) hp, by rw [hp.1]; exact h.size, h.le, fun X h1 h2 => h.fin X (Sort.permIn_trans _ _ _ aa bb hp h1) h2⟩
theorem eq (h : PI aa bb n d G) (ha : 0 < aa) (hp1 : aa ≤ p) (hp2 : p < bb) (hl : ltN d[aa - 1]! d[p]! = false) :
    aa < (Sort.partitionEqual ltN d aa bb p).1 ∧ (Sort.partitionEqual ltN d aa bb p).1 ≤ bb ∧ PI (Sort.partitionEqual ltN d aa bb p).1 bb n (Sort.partitionEqual ltN d aa bb p).2 G := by
  obtain ⟨h1, h2, h3, h4, h5⟩ := Sort.round_eq (lt := ltN) swoN (Sort.partitionEqual_holds ltN) (mid := (Sort.partitionEqual ltN d aa bb p).1) (d4 := (Sort.partitionEqual ltN d aa bb p).2) ha hp1 hp2 (by rw [h.size]; exact h.le) h.below hl rfl
  exact ⟨h1, h2, h4, by rw [h3]; exact h.size, h.le, fun X k1 k2 => by obtain ⟨k3, k4⟩ := h5 X k1 k2; exact h.fin X k3 k4⟩
theorem part (h : PI aa bb n d G) (hp1 : aa ≤ p) (hp2 : p < bb) :
    aa ≤ (Sort.partition ltN d aa bb p).1 ∧ (Sort.partition ltN d aa bb p).1 < bb ∧ Sort.Below ltN aa (Sort.partition ltN d aa bb p).1 (Sort.partition ltN d aa bb p).2.2 ∧ Sort.Below ltN ((Sort.partition ltN d aa bb p).1 + 1) bb (Sort.partition ltN d aa bb p).2.2 ∧ (Sort.partition ltN d aa bb p).2.2.size = n ∧
    (∀ L, Sort.PermIn aa (Sort.partition ltN d aa bb p).1 (Sort.partition ltN d aa bb p).2.2 L → Sort.SortedIn ltN aa (Sort.partition ltN d aa bb p).1 L → PI ((Sort.partition ltN d aa bb p).1 + 1) bb n L G) ∧
    (∀ L, Sort.PermIn ((Sort.partition ltN d aa bb p).1 + 1) bb (Sort.partition ltN d aa bb p).2.2 L → Sort.SortedIn ltN ((Sort.partition ltN d aa bb p).1 + 1) bb L → PI aa (Sort.partition ltN d aa bb p).1 n L G) := by
  obtain ⟨h1, h2, h3, h4, h5, h6, h7⟩ := Sort.round_part (lt := ltN) swoN (Sort.partition_holds ltN) (mid := (Sort.partition ltN d aa bb p).1) (ap := (Sort.partition ltN d aa bb p).2.1) (d4 := (Sort.partition ltN d aa bb p).2.2) hp1 hp2 (by rw [h.size]; exact h.le) h.below rfl
  have hs := h3.trans h.size
  refine ⟨h1, h2, h4, h5, hs, fun L k1 k2 => ?_, fun L k1 k2 => ?_⟩
  · obtain ⟨k3, k4⟩ := h6 L k1 k2
    exact ⟨k3, by rw [k1.1]; exact hs, h.le, fun X k5 k6 => by obtain ⟨k7, k8⟩ := k4 X k5 k6; exact h.fin X k7 k8⟩
  · obtain ⟨k3, k4⟩ := h7 L k1 k2
    exact ⟨k3, by rw [k1.1]; exact hs, by have := h.le; omega, fun X k5 k6 => by obtain ⟨k7, k8⟩ := k4 X k5 k6; exact h.fin X k7 k8⟩
end PI

set_option maxRecDepth 100000 in
set_option maxHeartbeats 16000000 in
theorem pdq_walk (g : Nat) (R : List Value) (n cap : Nat) (hn5 : n ≤ 1000000) (N : Nat) : ∀ (d : Array Nat) (lo hi limit : Nat) (w : World), hi - lo = N → d.size = n → lo ≤ hi → hi ≤ n → limit ≤ 100 → Sort.Below ltN lo hi d → NR w g d R →
    Calls Tryz.prog 136 #[.slice (some ⟨g, 0, none⟩) n cap, .int .i64 (lo : Int), .int .i64 (hi : Int), .int .i64 (limit : Int)] w (SRet w g R fun d' => Sort.PermIn lo hi d d' ∧ Sort.SortedIn ltN lo hi d') := by
  induction N using Nat.strongRecOn with
  | _ N ih =>
  intro d lo hi limit w hNe hn hlo hhi hlim hB hN
  obtain ⟨G, hG⟩ : ∃ G : Array Nat → Prop, (fun d' => Sort.PermIn lo hi d d' ∧ Sort.SortedIn ltN lo hi d') = G := ⟨_, rfl⟩
  have HG : Hid (∀ X, G X → Sort.PermIn lo hi d X ∧ Sort.SortedIn ltN lo hi X) := Lib.hid (fun X h => by rw [← hG] at h; exact h)
  have hI0 : Hid (PI lo hi n d G) := Lib.hid ⟨hB, hn, hhi, fun X h1 h2 => by rw [← hG]; exact ⟨h1, h2⟩⟩
  clear hG hB
  go_enter Tryz.func136, Tryz.ntmps136
  go_wp2
  go_loopw [1, 2, 3, 8, 9] (fun v1 v2 v3 v8 v9 wr => ∃ (aa bb l : Nat) (wb wp : Bool) (d1 : Array Nat), v1 = .int .i64 (aa : Int) ∧ v2 = .int .i64 (bb : Int) ∧ v3 = .int .i64 (l : Int) ∧ v8 = .bool wb ∧ v9 = .bool wp ∧ lo ≤ aa ∧ aa ≤ bb ∧ bb ≤ n ∧ bb - aa ≤ N ∧ l ≤ 100 ∧ Hid (PI aa bb n d1 G) ∧ NR wr g d1 R ∧ Chg (OnlyG g) w wr) (fun v1 v2 _ _ _ _ => (intOf v2 - intOf v1).toNat)
  case atStart => exact ⟨lo, hi, limit, true, true, d, rfl, rfl, rfl, rfl, rfl, Nat.le_refl _, hlo, hhi, by omega, hlim, hI0, hN, Chg.refl _ _⟩
  case round =>
    obtain ⟨aa, bb, l, wb, wp, d1, rfl, rfl, rfl, rfl, rfl, hla, hab, hbn, hbN, hl, hI_d1, hN_wr, hC_wr⟩ := hrel
    obtain ⟨L, hL⟩ : ∃ L, bb - aa = L := ⟨_, rfl⟩
    have hLw : IntKind.i64.wrap ((bb : Int) - (aa : Int)) = (L : Int) := by rw [IntWalk.i64_in _ (by omega)]; omega
    by_cases h12 : L ≤ 12
    · have h12i : (L : Int) ≤ 12 := by omega
      have hcall := insertionSort_walk g R d1 n cap aa bb hI_d1.out.size hab hbn hn5 wr hN_wr
      go_wp2_with fail
      refine Calls.mono hcall ?_
      rintro e W2 ⟨rfl, d2, rfl, hN2, hC2⟩
      obtain ⟨h1, h2⟩ := Sort.insertionSort_holds (lt := ltN) swoN d1 aa bb hab (by rw [hI_d1.out.size]; exact hbn)
      have hfin := Lib.hid (HG.out _ (hI_d1.out.fin _ h1 h2))
      clear hcall h1 h2
      go_wp2
      refine bodyPost_ret (results_none rfl _ _ _) rfl ?_
      exact ⟨rfl, _, hfin.out, hN2, hC_wr.trans hC2⟩
    · have h12i : ¬ (L : Int) ≤ 12 := by omega
      have hab12 : aa + 12 < bb := by omega
      by_cases hl0 : l = 0
      · subst hl0
        have hcall := heapSort_walk g R d1 n cap aa bb hI_d1.out.size (by omega) hbn hn5 wr hN_wr
        go_wp2_with fail
        refine Calls.mono hcall ?_
        rintro e W2 ⟨rfl, d2, rfl, hN2, hC2⟩
        obtain ⟨h1, h2⟩ := Sort.heapSort_holds (lt := ltN) swoN d1 aa bb hab (by rw [hI_d1.out.size]; exact hbn)
        have hfin := Lib.hid (HG.out _ (hI_d1.out.fin _ h1 h2))
        clear hcall h1 h2
        go_wp2
        refine bodyPost_ret (results_none rfl _ _ _) rfl ?_
        exact ⟨rfl, _, hfin.out, hN2, hC_wr.trans hC2⟩
      · have hl0i : ((l : Int) == 0) = false := by simp; omega
        have hl1 : IntKind.i64.wrap ((l : Int) - 1) = ((l - 1 : Nat) : Int) := by rw [IntWalk.i64_in _ (by omega)]; omega
        obtain ⟨l1, hl1e⟩ : ∃ k, l - 1 = k := ⟨_, rfl⟩
        rw [hl1e] at hl1
        have hl12 : l1 ≤ 100 := by omega
        cases wb with
        | false =>
          have hcall := breakPatterns_walk g R d1 n cap aa bb hI_d1.out.size hab12 hbn hn5 wr hN_wr
          go_wp2_with fail
          refine Calls.mono hcall ?_
          rintro e W2 ⟨rfl, d2, hpm, hN_W2, hC2⟩
          have hC_W2 := hC_wr.trans hC2
          have hI_d2 := Lib.hid (hI_d1.out.perm hpm)
          clear hcall hpm hC2 hN_wr hC_wr
          have hcall := choosePivot_walk g R d2 n cap aa bb hI_d2.out.size (by omega) hbn hn5 W2 hN_W2
          go_wp2_with fail
          refine Calls.mono hcall ?_
          rintro e W3 ⟨p, hint, hp, hh, rfl, hN_W3, hB3⟩
          have hC_W3 : Chg (OnlyG g) w W3 := hC_W2.trans (Chg.of_ext hB3)
          clear hcall hB3
          rcases hh with rfl | rfl | rfl
          · skip
            go_wp2_with fail
            have hs_d2 : d2.size = n := hI_d2.out.size
            refine s_cut [none, none, none, none, none, none, none, none, none, none, none, none, none, none, none, none, none, none, none, none, none, none, none, none, none, none, none, none, none, none, none, none, none, none, none, none, none, none, none, none, none, none, none, none, none, none, none, none, none, none, none, none, none, none, none, none, none, none, none, none, none, none, none, none, none, none, none, none, none, none, none, none, none, some 73, some 74, some 75, some 76, some 77, some 78, some 79, some 80, some 81, some 82, some 83, some 84, some 85, some 86, some 87, none, none, none, none, none, none, none, none, none, none, none, none, none, none, none, none, none, none, none, none, none, none, none, none, none, none, none, none, none, none, none, none, none, none, none, none, none, none, none, none, none, none, none, none, none, none] (fun f W => f 87 = .bool (decide (0 < aa) && !ltN d2[aa - 1]! d2[p]!) ∧ Below W3.heap.size W3 W) (fun Q1 hQ1 => ?_) ?_
            · by_cases hg : 0 < aa
              · skip
                refine Flow.wp_region_flow (W3.heap.size) [] [] (by kernel_rfl) (by kernel_rfl) (Nat.le_refl _) (fun _ h => by cases h) Flow.facts_nil ?_
                refine Flow.pass_old (X := .int .i64 ((aa : Int))) 1 (Flow.met_none rfl) (.inl rfl) (by kernel_rfl) (by kernel_rfl) rfl ?_
                refine Flow.pass_val (.bool true) (Flow.met_none rfl) (fun a W hH => ?_) ?_
                · have e0 := Flow.see_new 73 0 hH.sees (by kernel_rfl) (by kernel_rfl) rfl rfl
                  go_simp; first | done | rfl | omega | (simp; done) | (simp; omega) | exact decide_eq_true (by omega) | exact decide_eq_false (by omega)
                refine Flow.pass_copy 74 1 (Flow.met_none rfl) (.inl rfl) (by kernel_rfl) (by kernel_rfl) rfl rfl (fun _ _ => Flow.kept_eqs _ _) ?_
                refine Flow.pass_old (X := .slice (some ⟨g, 0, none⟩) n cap) 0 (Flow.met_some 2 true 75 rfl rfl (by kernel_rfl) (by kernel_rfl) rfl rfl) (.inl rfl) (by kernel_rfl) (by kernel_rfl) rfl ?_
                refine Flow.pass_old (X := .int .i64 ((aa : Int))) 1 (Flow.met_some 2 true 75 rfl rfl (by kernel_rfl) (by kernel_rfl) rfl rfl) (.inl rfl) (by kernel_rfl) (by kernel_rfl) rfl ?_
                refine Flow.pass_val (.int .i64 ((aa : Int) - 1)) (Flow.met_some 2 true 75 rfl rfl (by kernel_rfl) (by kernel_rfl) rfl rfl) (fun a W hH => ?_) ?_
                · have e0 := Flow.see_new 77 4 hH.sees (by kernel_rfl) (by kernel_rfl) rfl rfl
                  go_simp; first | done | rfl | (rw [IntWalk.i64_in _ (by omega)]; first | done | rfl | omega | (simp; done))
                refine Flow.pass_val (.pointer (some ⟨g, (aa - 1), none⟩)) (Flow.met_some 2 true 75 rfl rfl (by kernel_rfl) (by kernel_rfl) rfl rfl) (fun a W hH => ?_) ?_
                · have e0 := Flow.see_new 76 3 hH.sees (by kernel_rfl) (by kernel_rfl) rfl rfl
                  have e1 := Flow.see_new 78 5 hH.sees (by kernel_rfl) (by kernel_rfl) rfl rfl
                  exact s_ixS (s := 1) ((aa - 1)) _ rfl Tryz.underlying74 (by kernel_rfl) (by first | exact e0 | simpa [Act.eval] using e0 | (simp [Act.eval])) (by first | exact e1 | simpa [Act.eval] using e1 | (simp [Act.eval])) (by omega) (by omega) (by omega)
                refine Flow.pass_val (.int .u64 ((d2[(aa - 1)]! : Nat) : Int)) (Flow.met_some 2 true 75 rfl rfl (by kernel_rfl) (by kernel_rfl) rfl rfl) (fun a W hH => ?_) ?_
                · have e0 := Flow.see_new 79 6 hH.sees (by kernel_rfl) (by kernel_rfl) rfl rfl
                  have cc := nr_cell (hN_W3.below ((Below.refl W3.heap.size W3).drew.trans hH.below) hN_W3.lt) ((aa - 1)) (by omega); go_simp; first | done | rfl
                refine Flow.pass_old (X := .slice (some ⟨g, 0, none⟩) n cap) 0 (Flow.met_some 2 true 75 rfl rfl (by kernel_rfl) (by kernel_rfl) rfl rfl) (.inl rfl) (by kernel_rfl) (by kernel_rfl) rfl ?_
                refine Flow.pass_old (X := .int .i64 ((p : Int))) 11 (Flow.met_some 2 true 75 rfl rfl (by kernel_rfl) (by kernel_rfl) rfl rfl) (.inl rfl) (by kernel_rfl) (by kernel_rfl) rfl ?_
                refine Flow.pass_val (.pointer (some ⟨g, p, none⟩)) (Flow.met_some 2 true 75 rfl rfl (by kernel_rfl) (by kernel_rfl) rfl rfl) (fun a W hH => ?_) ?_
                · have e0 := Flow.see_new 81 8 hH.sees (by kernel_rfl) (by kernel_rfl) rfl rfl
                  have e1 := Flow.see_new 82 9 hH.sees (by kernel_rfl) (by kernel_rfl) rfl rfl
                  exact s_ixS (s := 1) (p) _ rfl Tryz.underlying74 (by kernel_rfl) (by first | exact e0 | simpa [Act.eval] using e0 | (simp [Act.eval])) (by first | exact e1 | simpa [Act.eval] using e1 | (simp [Act.eval])) (by omega) (by omega) (by omega)
                refine Flow.pass_val (.int .u64 ((d2[p]! : Nat) : Int)) (Flow.met_some 2 true 75 rfl rfl (by kernel_rfl) (by kernel_rfl) rfl rfl) (fun a W hH => ?_) ?_
                · have e0 := Flow.see_new 83 10 hH.sees (by kernel_rfl) (by kernel_rfl) rfl rfl
                  have cc := nr_cell (hN_W3.below ((Below.refl W3.heap.size W3).drew.trans hH.below) hN_W3.lt) (p) (by omega); go_simp; first | done | rfl
                refine Flow.pass_step (Reg.eqs (.bool (ltN (d2[(aa - 1)]!) (d2[p]!)))) (fun _ _ => Flow.kept_eqs _ _) (Flow.met_some 2 true 75 rfl rfl (by kernel_rfl) (by kernel_rfl) rfl rfl) (fun a W hH => ?_) ?_
                · have e0 := Flow.see_new 80 7 hH.sees (by kernel_rfl) (by kernel_rfl) rfl rfl
                  have e1 := Flow.see_new 84 11 hH.sees (by kernel_rfl) (by kernel_rfl) rfl rfl
                  refine Reg.wp_call rfl Tryz.func162 rfl (by kernel_rfl) (by simp [Act.eval, e0, e1]) (lessN (d2[(aa - 1)]!) (d2[p]!) W) ?_
                  rintro e w' ⟨rfl, rfl⟩
                  exact ⟨_, rfl, _, rfl, Ext.refl _, rfl⟩
                refine Flow.pass_val (.bool (!(ltN (d2[(aa - 1)]!) (d2[p]!)))) (Flow.met_some 2 true 75 rfl rfl (by kernel_rfl) (by kernel_rfl) rfl rfl) (fun a W hH => ?_) ?_
                · have e0 := Flow.see_new 85 12 hH.sees (by kernel_rfl) (by kernel_rfl) rfl rfl
                  go_simp; first | done | rfl
                refine Flow.pass_val (.bool (!(ltN (d2[(aa - 1)]!) (d2[p]!)))) (Flow.met_none rfl) (fun a W hH => ?_) ?_
                · have e0 := Flow.see_new 75 2 hH.sees (by kernel_rfl) (by kernel_rfl) rfl rfl
                  have e1 := Flow.see_new 86 13 hH.sees (by kernel_rfl) (by kernel_rfl) rfl rfl
                  go_simp; first | done | rfl
                refine Flow.pass_end [none, none, none, none, none, none, none, none, none, none, none, none, none, none, none, none, none, none, none, none, none, none, none, none, none, none, none, none, none, none, none, none, none, none, none, none, none, none, none, none, none, none, none, none, none, none, none, none, none, none, none, none, none, none, none, none, none, none, none, none, none, none, none, none, none, none, none, none, none, none, none, none, none, some 73, some 74, some 75, some 76, some 77, some 78, some 79, some 80, some 81, some 82, some 83, some 84, some 85, some 86, some 87, none, none, none, none, none, none, none, none, none, none, none, none, none, none, none, none, none, none, none, none, none, none, none, none, none, none, none, none, none, none, none, none, none, none, none, none, none, none, none, none, none, none, none, none, none, none] (by kernel_rfl) ?_
                intro f gg w9 hB hfa hT hfg
                have h87 : f 87 = _ := (hfg 87 14 (by kernel_rfl)).trans (hT 14 _ (by kernel_rfl) rfl)
                exact hQ1 f w9 ⟨by rw [h87, decide_eq_true hg, Bool.true_and], (Below.refl W3.heap.size W3).drew.trans hB⟩
              · skip
                refine Flow.wp_region_flow (W3.heap.size) [] [] (by kernel_rfl) (by kernel_rfl) (Nat.le_refl _) (fun _ h => by cases h) Flow.facts_nil ?_
                refine Flow.pass_old (X := .int .i64 ((aa : Int))) 1 (Flow.met_none rfl) (.inl rfl) (by kernel_rfl) (by kernel_rfl) rfl ?_
                refine Flow.pass_val (.bool false) (Flow.met_none rfl) (fun a W hH => ?_) ?_
                · have e0 := Flow.see_new 73 0 hH.sees (by kernel_rfl) (by kernel_rfl) rfl rfl
                  go_simp; first | done | rfl | omega | (simp; done) | (simp; omega) | exact decide_eq_true (by omega) | exact decide_eq_false (by omega)
                refine Flow.pass_copy 74 1 (Flow.met_none rfl) (.inl rfl) (by kernel_rfl) (by kernel_rfl) rfl rfl (fun _ _ => Flow.kept_eqs _ _) ?_
                refine Flow.pass_skip (fun a W hH => Flow.not_wanted 2 true 75 hH rfl rfl (by kernel_rfl) (by kernel_rfl) rfl rfl) ?_
                refine Flow.pass_skip (fun a W hH => Flow.not_wanted 2 true 75 hH rfl rfl (by kernel_rfl) (by kernel_rfl) rfl rfl) ?_
                refine Flow.pass_skip (fun a W hH => Flow.not_wanted 2 true 75 hH rfl rfl (by kernel_rfl) (by kernel_rfl) rfl rfl) ?_
                refine Flow.pass_skip (fun a W hH => Flow.not_wanted 2 true 75 hH rfl rfl (by kernel_rfl) (by kernel_rfl) rfl rfl) ?_
                refine Flow.pass_skip (fun a W hH => Flow.not_wanted 2 true 75 hH rfl rfl (by kernel_rfl) (by kernel_rfl) rfl rfl) ?_
                refine Flow.pass_skip (fun a W hH => Flow.not_wanted 2 true 75 hH rfl rfl (by kernel_rfl) (by kernel_rfl) rfl rfl) ?_
                refine Flow.pass_skip (fun a W hH => Flow.not_wanted 2 true 75 hH rfl rfl (by kernel_rfl) (by kernel_rfl) rfl rfl) ?_
                refine Flow.pass_skip (fun a W hH => Flow.not_wanted 2 true 75 hH rfl rfl (by kernel_rfl) (by kernel_rfl) rfl rfl) ?_
                refine Flow.pass_skip (fun a W hH => Flow.not_wanted 2 true 75 hH rfl rfl (by kernel_rfl) (by kernel_rfl) rfl rfl) ?_
                refine Flow.pass_skip (fun a W hH => Flow.not_wanted 2 true 75 hH rfl rfl (by kernel_rfl) (by kernel_rfl) rfl rfl) ?_
                refine Flow.pass_skip (fun a W hH => Flow.not_wanted 2 true 75 hH rfl rfl (by kernel_rfl) (by kernel_rfl) rfl rfl) ?_
                refine Flow.pass_val (.bool false) (Flow.met_none rfl) (fun a W hH => ?_) ?_
                · have e0 := Flow.see_new 75 2 hH.sees (by kernel_rfl) (by kernel_rfl) rfl rfl
                  have e1 := Flow.see_new 86 13 hH.sees (by kernel_rfl) (by kernel_rfl) rfl rfl
                  go_simp; first | done | rfl
                refine Flow.pass_end [none, none, none, none, none, none, none, none, none, none, none, none, none, none, none, none, none, none, none, none, none, none, none, none, none, none, none, none, none, none, none, none, none, none, none, none, none, none, none, none, none, none, none, none, none, none, none, none, none, none, none, none, none, none, none, none, none, none, none, none, none, none, none, none, none, none, none, none, none, none, none, none, none, some 73, some 74, some 75, some 76, some 77, some 78, some 79, some 80, some 81, some 82, some 83, some 84, some 85, some 86, some 87, none, none, none, none, none, none, none, none, none, none, none, none, none, none, none, none, none, none, none, none, none, none, none, none, none, none, none, none, none, none, none, none, none, none, none, none, none, none, none, none, none, none, none, none, none, none] (by kernel_rfl) ?_
                intro f gg w9 hB hfa hT hfg
                have h87 : f 87 = _ := (hfg 87 14 (by kernel_rfl)).trans (hT 14 _ (by kernel_rfl) rfl)
                exact hQ1 f w9 ⟨by rw [h87, decide_eq_false hg, Bool.false_and], (Below.refl W3.heap.size W3).drew.trans hB⟩
            intro f Wt ⟨h87, hBWt⟩
            simp only [Reg.sel, h87]
            have hN_Wt := Blk.below hN_W3 hBWt (Blk.lt hN_W3)
            have hC_Wt := hC_W3.trans (Chg.of_ext hBWt)
            clear h87 hBWt
            cases hq : (decide (0 < aa) && !ltN d2[aa - 1]! d2[p]!) with
            | true =>
              have hq2 : 0 < aa ∧ ltN d2[aa - 1]! d2[p]! = false := by simpa using hq
              obtain ⟨z1, z2, z3⟩ := hI_d2.out.eq hq2.1 hp.1 hp.2 hq2.2
              have hcall := partitionEqual_walk g R d2 n cap aa bb p hI_d2.out.size hp.1 hp.2 hbn hn5 Wt hN_Wt
              generalize Sort.partitionEqual ltN d2 aa bb p = r at *
              obtain ⟨mid, d5⟩ := r
              have z1 : aa < mid := z1
              have z2 : mid ≤ bb := z2
              have z3 : PI mid bb n d5 G := z3
              have z3 := Lib.hid z3
              clear hq hq2
              go_wp2_with fail
              refine Calls.mono hcall ?_
              rintro e W7 ⟨rfl, hN7, hC7⟩
              clear hcall
              go_wp2
              go_roundw
              case rel => first | exact ⟨mid, bb, l1, false, wp, d5, rfl, rfl, rfl, rfl, rfl, by omega, z2, hbn, by omega, hl12, z3, hN7, hC_Wt.trans hC7⟩ | ((repeat apply Exists.intro); refine ⟨?_, rfl⟩; exact ⟨mid, bb, l1, false, wp, d5, rfl, rfl, rfl, rfl, rfl, by omega, z2, hbn, by omega, hl12, z3, hN7, hC_Wt.trans hC7⟩)
              case measure => first | (simp [intOf]; done) | (simp [intOf]; omega) | (simp only [intOf]; omega)
            | false =>
              obtain ⟨z1, z2, z3, z4, z5, z6, z7⟩ := hI_d2.out.part hp.1 hp.2
              have hcall := partition_walk g R d2 n cap aa bb p hI_d2.out.size hp.1 hp.2 hbn hn5 Wt hN_Wt
              generalize Sort.partition ltN d2 aa bb p = r at *
              obtain ⟨mid, ap, d5⟩ := r
              have z1 : aa ≤ mid := z1
              have z2 : mid < bb := z2
              have z3 : Sort.Below ltN aa mid d5 := z3
              have z4 : Sort.Below ltN (mid + 1) bb d5 := z4
              have z5 : d5.size = n := z5
              have z6 : ∀ L, Sort.PermIn aa mid d5 L → Sort.SortedIn ltN aa mid L → PI (mid + 1) bb n L G := z6
              have z7 : ∀ L, Sort.PermIn (mid + 1) bb d5 L → Sort.SortedIn ltN (mid + 1) bb L → PI aa mid n L G := z7
              have z6 := Lib.hid z6
              have z7 := Lib.hid z7
              have z3 := Lib.hid z3
              have z4 := Lib.hid z4
              clear hq
              go_wp2_with fail
              refine Calls.mono hcall ?_
              rintro e W7 ⟨rfl, hN7, hC7⟩
              have hC_W7 := hC_Wt.trans hC7
              have q1 : IntKind.i64.wrap ((mid : Int) - (aa : Int)) = (mid : Int) - (aa : Int) := IntWalk.i64_in _ (by omega)
              have q2 : IntKind.i64.wrap ((bb : Int) - (mid : Int)) = (bb : Int) - (mid : Int) := IntWalk.i64_in _ (by omega)
              have q3 : IntKind.i64.wrap ((mid : Int) + 1) = ((mid + 1 : Nat) : Int) := by rw [IntWalk.i64_in _ (by omega)]; omega
              clear hcall hC7 hC_Wt
              by_cases hlr : mid - aa < bb - mid
              · have hlri : (mid : Int) - (aa : Int) < (bb : Int) - (mid : Int) := by omega
                have hrec := ih (mid - aa) (by omega) d5 aa mid l1 W7 rfl z5 z1 (by omega) hl12 z3.out hN7
                go_wp2_with fail
                refine Calls.mono hrec ?_
                rintro e W8 ⟨rfl, d6, ⟨hp6, hs6⟩, hN8, hC8⟩
                have hI6 := Lib.hid (z6.out d6 hp6 hs6)
                clear hrec hp6 hs6
                go_wp2
                go_roundw
                case rel => first | exact ⟨mid + 1, bb, l1, _, ap, d6, by go_num, rfl, rfl, rfl, rfl, by omega, by omega, hbn, by omega, hl12, hI6, hN8, hC_W7.trans hC8⟩ | ((repeat apply Exists.intro); refine ⟨?_, rfl⟩; exact ⟨mid + 1, bb, l1, _, ap, d6, by go_num, rfl, rfl, rfl, rfl, by omega, by omega, hbn, by omega, hl12, hI6, hN8, hC_W7.trans hC8⟩)
                case measure => first | (simp [intOf]; done) | (simp [intOf]; omega) | (simp only [intOf]; omega)
              · have hlri : ¬ (mid : Int) - (aa : Int) < (bb : Int) - (mid : Int) := by omega
                have hrec := ih (bb - (mid + 1)) (by omega) d5 (mid + 1) bb l1 W7 rfl z5 (by omega) hbn hl12 z4.out hN7
                go_wp2_with fail
                refine Calls.mono hrec ?_
                rintro e W8 ⟨rfl, d6, ⟨hp6, hs6⟩, hN8, hC8⟩
                have hI6 := Lib.hid (z7.out d6 hp6 hs6)
                clear hrec hp6 hs6
                go_wp2
                go_roundw
                case rel => first | exact ⟨aa, mid, l1, _, ap, d6, rfl, rfl, rfl, rfl, rfl, hla, z1, by omega, by omega, hl12, hI6, hN8, hC_W7.trans hC8⟩ | ((repeat apply Exists.intro); refine ⟨?_, rfl⟩; exact ⟨aa, mid, l1, _, ap, d6, rfl, rfl, rfl, rfl, rfl, hla, z1, by omega, by omega, hl12, hI6, hN8, hC_W7.trans hC8⟩)
                case measure => first | (simp [intOf]; done) | (simp [intOf]; omega) | (simp only [intOf]; omega)
          · skip
            go_wp2_with fail
            have hs_d2 : d2.size = n := hI_d2.out.size
            refine s_cut [none, none, none, none, none, none, none, none, none, none, none, none, none, none, none, none, none, none, none, none, none, none, none, none, none, none, none, none, none, none, none, none, none, none, none, none, none, none, none, none, none, none, none, none, none, none, none, none, none, none, none, none, none, none, none, none, none, none, none, none, none, none, none, none, none, none, none, none, none, none, none, none, none, some 73, some 74, some 75, some 76, some 77, some 78, some 79, some 80, some 81, some 82, some 83, some 84, some 85, some 86, some 87, none, none, none, none, none, none, none, none, none, none, none, none, none, none, none, none, none, none, none, none, none, none, none, none, none, none, none, none, none, none, none, none, none, none, none, none, none, none, none, none, none, none, none, none, none, none] (fun f W => f 87 = .bool (decide (0 < aa) && !ltN d2[aa - 1]! d2[p]!) ∧ Below W3.heap.size W3 W) (fun Q1 hQ1 => ?_) ?_
            · by_cases hg : 0 < aa
              · skip
                refine Flow.wp_region_flow (W3.heap.size) [] [] (by kernel_rfl) (by kernel_rfl) (Nat.le_refl _) (fun _ h => by cases h) Flow.facts_nil ?_
                refine Flow.pass_old (X := .int .i64 ((aa : Int))) 1 (Flow.met_none rfl) (.inl rfl) (by kernel_rfl) (by kernel_rfl) rfl ?_
                refine Flow.pass_val (.bool true) (Flow.met_none rfl) (fun a W hH => ?_) ?_
                · have e0 := Flow.see_new 73 0 hH.sees (by kernel_rfl) (by kernel_rfl) rfl rfl
                  go_simp; first | done | rfl | omega | (simp; done) | (simp; omega) | exact decide_eq_true (by omega) | exact decide_eq_false (by omega)
                refine Flow.pass_copy 74 1 (Flow.met_none rfl) (.inl rfl) (by kernel_rfl) (by kernel_rfl) rfl rfl (fun _ _ => Flow.kept_eqs _ _) ?_
                refine Flow.pass_old (X := .slice (some ⟨g, 0, none⟩) n cap) 0 (Flow.met_some 2 true 75 rfl rfl (by kernel_rfl) (by kernel_rfl) rfl rfl) (.inl rfl) (by kernel_rfl) (by kernel_rfl) rfl ?_
                refine Flow.pass_old (X := .int .i64 ((aa : Int))) 1 (Flow.met_some 2 true 75 rfl rfl (by kernel_rfl) (by kernel_rfl) rfl rfl) (.inl rfl) (by kernel_rfl) (by kernel_rfl) rfl ?_
                refine Flow.pass_val (.int .i64 ((aa : Int) - 1)) (Flow.met_some 2 true 75 rfl rfl (by kernel_rfl) (by kernel_rfl) rfl rfl) (fun a W hH => ?_) ?_
                · have e0 := Flow.see_new 77 4 hH.sees (by kernel_rfl) (by kernel_rfl) rfl rfl
                  go_simp; first | done | rfl | (rw [IntWalk.i64_in _ (by omega)]; first | done | rfl | omega | (simp; done))
                refine Flow.pass_val (.pointer (some ⟨g, (aa - 1), none⟩)) (Flow.met_some 2 true 75 rfl rfl (by kernel_rfl) (by kernel_rfl) rfl rfl) (fun a W hH => ?_) ?_
                · have e0 := Flow.see_new 76 3 hH.sees (by kernel_rfl) (by kernel_rfl) rfl rfl
                  have e1 := Flow.see_new 78 5 hH.sees (by kernel_rfl) (by kernel_rfl) rfl rfl
                  exact s_ixS (s := 1) ((aa - 1)) _ rfl Tryz.underlying74 (by kernel_rfl) (by first | exact e0 | simpa [Act.eval] using e0 | (simp [Act.eval])) (by first | exact e1 | simpa [Act.eval] using e1 | (simp [Act.eval])) (by omega) (by omega) (by omega)
                refine Flow.pass_val (.int .u64 ((d2[(aa - 1)]! : Nat) : Int)) (Flow.met_some 2 true 75 rfl rfl (by kernel_rfl) (by kernel_rfl) rfl rfl) (fun a W hH => ?_) ?_
                · have e0 := Flow.see_new 79 6 hH.sees (by kernel_rfl) (by kernel_rfl) rfl rfl
                  have cc := nr_cell (hN_W3.below ((Below.refl W3.heap.size W3).drew.trans hH.below) hN_W3.lt) ((aa - 1)) (by omega); go_simp; first | done | rfl
                refine Flow.pass_old (X := .slice (some ⟨g, 0, none⟩) n cap) 0 (Flow.met_some 2 true 75 rfl rfl (by kernel_rfl) (by kernel_rfl) rfl rfl) (.inl rfl) (by kernel_rfl) (by kernel_rfl) rfl ?_
                refine Flow.pass_old (X := .int .i64 ((p : Int))) 11 (Flow.met_some 2 true 75 rfl rfl (by kernel_rfl) (by kernel_rfl) rfl rfl) (.inl rfl) (by kernel_rfl) (by kernel_rfl) rfl ?_
                refine Flow.pass_val (.pointer (some ⟨g, p, none⟩)) (Flow.met_some 2 true 75 rfl rfl (by kernel_rfl) (by kernel_rfl) rfl rfl) (fun a W hH => ?_) ?_
                · have e0 := Flow.see_new 81 8 hH.sees (by kernel_rfl) (by kernel_rfl) rfl rfl
                  have e1 := Flow.see_new 82 9 hH.sees (by kernel_rfl) (by kernel_rfl) rfl rfl
                  exact s_ixS (s := 1) (p) _ rfl Tryz.underlying74 (by kernel_rfl) (by first | exact e0 | simpa [Act.eval] using e0 | (simp [Act.eval])) (by first | exact e1 | simpa [Act.eval] using e1 | (simp [Act.eval])) (by omega) (by omega) (by omega)
                refine Flow.pass_val (.int .u64 ((d2[p]! : Nat) : Int)) (Flow.met_some 2 true 75 rfl rfl (by kernel_rfl) (by kernel_rfl) rfl rfl) (fun a W hH => ?_) ?_
                · have e0 := Flow.see_new 83 10 hH.sees (by kernel_rfl) (by kernel_rfl) rfl rfl
                  have cc := nr_cell (hN_W3.below ((Below.refl W3.heap.size W3).drew.trans hH.below) hN_W3.lt) (p) (by omega); go_simp; first | done | rfl
                refine Flow.pass_step (Reg.eqs (.bool (ltN (d2[(aa - 1)]!) (d2[p]!)))) (fun _ _ => Flow.kept_eqs _ _) (Flow.met_some 2 true 75 rfl rfl (by kernel_rfl) (by kernel_rfl) rfl rfl) (fun a W hH => ?_) ?_
                · have e0 := Flow.see_new 80 7 hH.sees (by kernel_rfl) (by kernel_rfl) rfl rfl
                  have e1 := Flow.see_new 84 11 hH.sees (by kernel_rfl) (by kernel_rfl) rfl rfl
                  refine Reg.wp_call rfl Tryz.func162 rfl (by kernel_rfl) (by simp [Act.eval, e0, e1]) (lessN (d2[(aa - 1)]!) (d2[p]!) W) ?_
                  rintro e w' ⟨rfl, rfl⟩
                  exact ⟨_, rfl, _, rfl, Ext.refl _, rfl⟩
                refine Flow.pass_val (.bool (!(ltN (d2[(aa - 1)]!) (d2[p]!)))) (Flow.met_some 2 true 75 rfl rfl (by kernel_rfl) (by kernel_rfl) rfl rfl) (fun a W hH => ?_) ?_
                · have e0 := Flow.see_new 85 12 hH.sees (by kernel_rfl) (by kernel_rfl) rfl rfl
                  go_simp; first | done | rfl
                refine Flow.pass_val (.bool (!(ltN (d2[(aa - 1)]!) (d2[p]!)))) (Flow.met_none rfl) (fun a W hH => ?_) ?_
                · have e0 := Flow.see_new 75 2 hH.sees (by kernel_rfl) (by kernel_rfl) rfl rfl
                  have e1 := Flow.see_new 86 13 hH.sees (by kernel_rfl) (by kernel_rfl) rfl rfl
                  go_simp; first | done | rfl
                refine Flow.pass_end [none, none, none, none, none, none, none, none, none, none, none, none, none, none, none, none, none, none, none, none, none, none, none, none, none, none, none, none, none, none, none, none, none, none, none, none, none, none, none, none, none, none, none, none, none, none, none, none, none, none, none, none, none, none, none, none, none, none, none, none, none, none, none, none, none, none, none, none, none, none, none, none, none, some 73, some 74, some 75, some 76, some 77, some 78, some 79, some 80, some 81, some 82, some 83, some 84, some 85, some 86, some 87, none, none, none, none, none, none, none, none, none, none, none, none, none, none, none, none, none, none, none, none, none, none, none, none, none, none, none, none, none, none, none, none, none, none, none, none, none, none, none, none, none, none, none, none, none, none] (by kernel_rfl) ?_
                intro f gg w9 hB hfa hT hfg
                have h87 : f 87 = _ := (hfg 87 14 (by kernel_rfl)).trans (hT 14 _ (by kernel_rfl) rfl)
                exact hQ1 f w9 ⟨by rw [h87, decide_eq_true hg, Bool.true_and], (Below.refl W3.heap.size W3).drew.trans hB⟩
              · skip
                refine Flow.wp_region_flow (W3.heap.size) [] [] (by kernel_rfl) (by kernel_rfl) (Nat.le_refl _) (fun _ h => by cases h) Flow.facts_nil ?_
                refine Flow.pass_old (X := .int .i64 ((aa : Int))) 1 (Flow.met_none rfl) (.inl rfl) (by kernel_rfl) (by kernel_rfl) rfl ?_
                refine Flow.pass_val (.bool false) (Flow.met_none rfl) (fun a W hH => ?_) ?_
                · have e0 := Flow.see_new 73 0 hH.sees (by kernel_rfl) (by kernel_rfl) rfl rfl
                  go_simp; first | done | rfl | omega | (simp; done) | (simp; omega) | exact decide_eq_true (by omega) | exact decide_eq_false (by omega)
                refine Flow.pass_copy 74 1 (Flow.met_none rfl) (.inl rfl) (by kernel_rfl) (by kernel_rfl) rfl rfl (fun _ _ => Flow.kept_eqs _ _) ?_
                refine Flow.pass_skip (fun a W hH => Flow.not_wanted 2 true 75 hH rfl rfl (by kernel_rfl) (by kernel_rfl) rfl rfl) ?_
                refine Flow.pass_skip (fun a W hH => Flow.not_wanted 2 true 75 hH rfl rfl (by kernel_rfl) (by kernel_rfl) rfl rfl) ?_
                refine Flow.pass_skip (fun a W hH => Flow.not_wanted 2 true 75 hH rfl rfl (by kernel_rfl) (by kernel_rfl) rfl rfl) ?_
                refine Flow.pass_skip (fun a W hH => Flow.not_wanted 2 true 75 hH rfl rfl (by kernel_rfl) (by kernel_rfl) rfl rfl) ?_
                refine Flow.pass_skip (fun a W hH => Flow.not_wanted 2 true 75 hH rfl rfl (by kernel_rfl) (by kernel_rfl) rfl rfl) ?_
                refine Flow.pass_skip (fun a W hH => Flow.not_wanted 2 true 75 hH rfl rfl (by kernel_rfl) (by kernel_rfl) rfl rfl) ?_
                refine Flow.pass_skip (fun a W hH => Flow.not_wanted 2 true 75 hH rfl rfl (by kernel_rfl) (by kernel_rfl) rfl rfl) ?_
                refine Flow.pass_skip (fun a W hH => Flow.not_wanted 2 true 75 hH rfl rfl (by kernel_rfl) (by kernel_rfl) rfl rfl) ?_
                refine Flow.pass_skip (fun a W hH => Flow.not_wanted 2 true 75 hH rfl rfl (by kernel_rfl) (by kernel_rfl) rfl rfl) ?_
                refine Flow.pass_skip (fun a W hH => Flow.not_wanted 2 true 75 hH rfl rfl (by kernel_rfl) (by kernel_rfl) rfl rfl) ?_
                refine Flow.pass_skip (fun a W hH => Flow.not_wanted 2 true 75 hH rfl rfl (by kernel_rfl) (by kernel_rfl) rfl rfl) ?_
                refine Flow.pass_val (.bool false) (Flow.met_none rfl) (fun a W hH => ?_) ?_
                · have e0 := Flow.see_new 75 2 hH.sees (by kernel_rfl) (by kernel_rfl) rfl rfl
                  have e1 := Flow.see_new 86 13 hH.sees (by kernel_rfl) (by kernel_rfl) rfl rfl
                  go_simp; first | done | rfl
                refine Flow.pass_end [none, none, none, none, none, none, none, none, none, none, none, none, none, none, none, none, none, none, none, none, none, none, none, none, none, none, none, none, none, none, none, none, none, none, none, none, none, none, none, none, none, none, none, none, none, none, none, none, none, none, none, none, none, none, none, none, none, none, none, none, none, none, none, none, none, none, none, none, none, none, none, none, none, some 73, some 74, some 75, some 76, some 77, some 78, some 79, some 80, some 81, some 82, some 83, some 84, some 85, some 86, some 87, none, none, none, none, none, none, none, none, none, none, none, none, none, none, none, none, none, none, none, none, none, none, none, none, none, none, none, none, none, none, none, none, none, none, none, none, none, none, none, none, none, none, none, none, none, none] (by kernel_rfl) ?_
                intro f gg w9 hB hfa hT hfg
                have h87 : f 87 = _ := (hfg 87 14 (by kernel_rfl)).trans (hT 14 _ (by kernel_rfl) rfl)
                exact hQ1 f w9 ⟨by rw [h87, decide_eq_false hg, Bool.false_and], (Below.refl W3.heap.size W3).drew.trans hB⟩
            intro f Wt ⟨h87, hBWt⟩
            simp only [Reg.sel, h87]
            have hN_Wt := Blk.below hN_W3 hBWt (Blk.lt hN_W3)
            have hC_Wt := hC_W3.trans (Chg.of_ext hBWt)
            clear h87 hBWt
            cases hq : (decide (0 < aa) && !ltN d2[aa - 1]! d2[p]!) with
            | true =>
              have hq2 : 0 < aa ∧ ltN d2[aa - 1]! d2[p]! = false := by simpa using hq
              obtain ⟨z1, z2, z3⟩ := hI_d2.out.eq hq2.1 hp.1 hp.2 hq2.2
              have hcall := partitionEqual_walk g R d2 n cap aa bb p hI_d2.out.size hp.1 hp.2 hbn hn5 Wt hN_Wt
              generalize Sort.partitionEqual ltN d2 aa bb p = r at *
              obtain ⟨mid, d5⟩ := r
              have z1 : aa < mid := z1
              have z2 : mid ≤ bb := z2
              have z3 : PI mid bb n d5 G := z3
              have z3 := Lib.hid z3
              clear hq hq2
              go_wp2_with fail
              refine Calls.mono hcall ?_
              rintro e W7 ⟨rfl, hN7, hC7⟩
              clear hcall
              go_wp2
              go_roundw
              case rel => first | exact ⟨mid, bb, l1, false, wp, d5, rfl, rfl, rfl, rfl, rfl, by omega, z2, hbn, by omega, hl12, z3, hN7, hC_Wt.trans hC7⟩ | ((repeat apply Exists.intro); refine ⟨?_, rfl⟩; exact ⟨mid, bb, l1, false, wp, d5, rfl, rfl, rfl, rfl, rfl, by omega, z2, hbn, by omega, hl12, z3, hN7, hC_Wt.trans hC7⟩)
              case measure => first | (simp [intOf]; done) | (simp [intOf]; omega) | (simp only [intOf]; omega)
            | false =>
              obtain ⟨z1, z2, z3, z4, z5, z6, z7⟩ := hI_d2.out.part hp.1 hp.2
              have hcall := partition_walk g R d2 n cap aa bb p hI_d2.out.size hp.1 hp.2 hbn hn5 Wt hN_Wt
              generalize Sort.partition ltN d2 aa bb p = r at *
              obtain ⟨mid, ap, d5⟩ := r
              have z1 : aa ≤ mid := z1
              have z2 : mid < bb := z2
              have z3 : Sort.Below ltN aa mid d5 := z3
              have z4 : Sort.Below ltN (mid + 1) bb d5 := z4
              have z5 : d5.size = n := z5
              have z6 : ∀ L, Sort.PermIn aa mid d5 L → Sort.SortedIn ltN aa mid L → PI (mid + 1) bb n L G := z6
              have z7 : ∀ L, Sort.PermIn (mid + 1) bb d5 L → Sort.SortedIn ltN (mid + 1) bb L → PI aa mid n L G := z7
              have z6 := Lib.hid z6
              have z7 := Lib.hid z7
              have z3 := Lib.hid z3
              have z4 := Lib.hid z4
              clear hq
              go_wp2_with fail
              refine Calls.mono hcall ?_
              rintro e W7 ⟨rfl, hN7, hC7⟩
              have hC_W7 := hC_Wt.trans hC7
              have q1 : IntKind.i64.wrap ((mid : Int) - (aa : Int)) = (mid : Int) - (aa : Int) := IntWalk.i64_in _ (by omega)
              have q2 : IntKind.i64.wrap ((bb : Int) - (mid : Int)) = (bb : Int) - (mid : Int) := IntWalk.i64_in _ (by omega)
              have q3 : IntKind.i64.wrap ((mid : Int) + 1) = ((mid + 1 : Nat) : Int) := by rw [IntWalk.i64_in _ (by omega)]; omega
              clear hcall hC7 hC_Wt
              by_cases hlr : mid - aa < bb - mid
              · have hlri : (mid : Int) - (aa : Int) < (bb : Int) - (mid : Int) := by omega
                have hrec := ih (mid - aa) (by omega) d5 aa mid l1 W7 rfl z5 z1 (by omega) hl12 z3.out hN7
                go_wp2_with fail
                refine Calls.mono hrec ?_
                rintro e W8 ⟨rfl, d6, ⟨hp6, hs6⟩, hN8, hC8⟩
                have hI6 := Lib.hid (z6.out d6 hp6 hs6)
                clear hrec hp6 hs6
                go_wp2
                go_roundw
                case rel => first | exact ⟨mid + 1, bb, l1, _, ap, d6, by go_num, rfl, rfl, rfl, rfl, by omega, by omega, hbn, by omega, hl12, hI6, hN8, hC_W7.trans hC8⟩ | ((repeat apply Exists.intro); refine ⟨?_, rfl⟩; exact ⟨mid + 1, bb, l1, _, ap, d6, by go_num, rfl, rfl, rfl, rfl, by omega, by omega, hbn, by omega, hl12, hI6, hN8, hC_W7.trans hC8⟩)
                case measure => first | (simp [intOf]; done) | (simp [intOf]; omega) | (simp only [intOf]; omega)
              · have hlri : ¬ (mid : Int) - (aa : Int) < (bb : Int) - (mid : Int) := by omega
                have hrec := ih (bb - (mid + 1)) (by omega) d5 (mid + 1) bb l1 W7 rfl z5 (by omega) hbn hl12 z4.out hN7
                go_wp2_with fail
                refine Calls.mono hrec ?_
                rintro e W8 ⟨rfl, d6, ⟨hp6, hs6⟩, hN8, hC8⟩
                have hI6 := Lib.hid (z7.out d6 hp6 hs6)
                clear hrec hp6 hs6
                go_wp2
                go_roundw
                case rel => first | exact ⟨aa, mid, l1, _, ap, d6, rfl, rfl, rfl, rfl, rfl, hla, z1, by omega, by omega, hl12, hI6, hN8, hC_W7.trans hC8⟩ | ((repeat apply Exists.intro); refine ⟨?_, rfl⟩; exact ⟨aa, mid, l1, _, ap, d6, rfl, rfl, rfl, rfl, rfl, hla, z1, by omega, by omega, hl12, hI6, hN8, hC_W7.trans hC8⟩)
                case measure => first | (simp [intOf]; done) | (simp [intOf]; omega) | (simp only [intOf]; omega)
          · skip
            have hcall := reverseRange_walk g R d2 n cap aa bb hI_d2.out.size (by omega) hbn hn5 W3 hN_W3
            obtain ⟨p2, hp2e⟩ : ∃ q, bb - 1 - (p - aa) = q := ⟨_, rfl⟩
            have hp2 : aa ≤ p2 ∧ p2 < bb := by omega
            have u1 : IntKind.i64.wrap ((bb : Int) - 1) = (bb : Int) - 1 := IntWalk.i64_in _ (by omega)
            have u2 : IntKind.i64.wrap ((p : Int) - (aa : Int)) = (p : Int) - (aa : Int) := IntWalk.i64_in _ (by omega)
            have u3 : IntKind.i64.wrap ((bb : Int) - 1 - ((p : Int) - (aa : Int))) = (p2 : Int) := by rw [IntWalk.i64_in _ (by omega)]; omega
            clear hp2e
            go_wp2_with fail
            refine Calls.mono hcall ?_
            rintro e W5 ⟨rfl, d3, hpm, hN_W5, hC5⟩
            have hC_W5 := hC_W3.trans hC5
            have hI_d3 := Lib.hid (hI_d2.out.perm hpm)
            clear hcall hC5 hpm hN_W3 hC_W3
            go_wp2_with fail
            have hs_d3 : d3.size = n := hI_d3.out.size
            refine s_cut [none, none, none, none, none, none, none, none, none, none, none, none, none, none, none, none, none, none, none, none, none, none, none, none, none, none, none, none, none, none, none, none, none, none, none, none, none, none, none, none, none, none, none, none, none, none, none, none, none, none, none, none, none, none, none, none, none, none, none, none, none, none, none, none, none, none, none, none, none, none, none, none, none, some 73, some 74, some 75, some 76, some 77, some 78, some 79, some 80, some 81, some 82, some 83, some 84, some 85, some 86, some 87, none, none, none, none, none, none, none, none, none, none, none, none, none, none, none, none, none, none, none, none, none, none, none, none, none, none, none, none, none, none, none, none, none, none, none, none, none, none, none, none, none, none, none, none, none, none] (fun f W => f 87 = .bool (decide (0 < aa) && !ltN d3[aa - 1]! d3[p2]!) ∧ Below W5.heap.size W5 W) (fun Q1 hQ1 => ?_) ?_
            · by_cases hg : 0 < aa
              · skip
                refine Flow.wp_region_flow (W5.heap.size) [] [] (by kernel_rfl) (by kernel_rfl) (Nat.le_refl _) (fun _ h => by cases h) Flow.facts_nil ?_
                refine Flow.pass_old (X := .int .i64 ((aa : Int))) 1 (Flow.met_none rfl) (.inl rfl) (by kernel_rfl) (by kernel_rfl) rfl ?_
                refine Flow.pass_val (.bool true) (Flow.met_none rfl) (fun a W hH => ?_) ?_
                · have e0 := Flow.see_new 73 0 hH.sees (by kernel_rfl) (by kernel_rfl) rfl rfl
                  go_simp; first | done | rfl | omega | (simp; done) | (simp; omega) | exact decide_eq_true (by omega) | exact decide_eq_false (by omega)
                refine Flow.pass_copy 74 1 (Flow.met_none rfl) (.inl rfl) (by kernel_rfl) (by kernel_rfl) rfl rfl (fun _ _ => Flow.kept_eqs _ _) ?_
                refine Flow.pass_old (X := .slice (some ⟨g, 0, none⟩) n cap) 0 (Flow.met_some 2 true 75 rfl rfl (by kernel_rfl) (by kernel_rfl) rfl rfl) (.inl rfl) (by kernel_rfl) (by kernel_rfl) rfl ?_
                refine Flow.pass_old (X := .int .i64 ((aa : Int))) 1 (Flow.met_some 2 true 75 rfl rfl (by kernel_rfl) (by kernel_rfl) rfl rfl) (.inl rfl) (by kernel_rfl) (by kernel_rfl) rfl ?_
                refine Flow.pass_val (.int .i64 ((aa : Int) - 1)) (Flow.met_some 2 true 75 rfl rfl (by kernel_rfl) (by kernel_rfl) rfl rfl) (fun a W hH => ?_) ?_
                · have e0 := Flow.see_new 77 4 hH.sees (by kernel_rfl) (by kernel_rfl) rfl rfl
                  go_simp; first | done | rfl | (rw [IntWalk.i64_in _ (by omega)]; first | done | rfl | omega | (simp; done))
                refine Flow.pass_val (.pointer (some ⟨g, (aa - 1), none⟩)) (Flow.met_some 2 true 75 rfl rfl (by kernel_rfl) (by kernel_rfl) rfl rfl) (fun a W hH => ?_) ?_
                · have e0 := Flow.see_new 76 3 hH.sees (by kernel_rfl) (by kernel_rfl) rfl rfl
                  have e1 := Flow.see_new 78 5 hH.sees (by kernel_rfl) (by kernel_rfl) rfl rfl
                  exact s_ixS (s := 1) ((aa - 1)) _ rfl Tryz.underlying74 (by kernel_rfl) (by first | exact e0 | simpa [Act.eval] using e0 | (simp [Act.eval])) (by first | exact e1 | simpa [Act.eval] using e1 | (simp [Act.eval])) (by omega) (by omega) (by omega)
                refine Flow.pass_val (.int .u64 ((d3[(aa - 1)]! : Nat) : Int)) (Flow.met_some 2 true 75 rfl rfl (by kernel_rfl) (by kernel_rfl) rfl rfl) (fun a W hH => ?_) ?_
                · have e0 := Flow.see_new 79 6 hH.sees (by kernel_rfl) (by kernel_rfl) rfl rfl
                  have cc := nr_cell (hN_W5.below ((Below.refl W5.heap.size W5).drew.trans hH.below) hN_W5.lt) ((aa - 1)) (by omega); go_simp; first | done | rfl
                refine Flow.pass_old (X := .slice (some ⟨g, 0, none⟩) n cap) 0 (Flow.met_some 2 true 75 rfl rfl (by kernel_rfl) (by kernel_rfl) rfl rfl) (.inl rfl) (by kernel_rfl) (by kernel_rfl) rfl ?_
                refine Flow.pass_old (X := .int .i64 ((p2 : Int))) 11 (Flow.met_some 2 true 75 rfl rfl (by kernel_rfl) (by kernel_rfl) rfl rfl) (.inl rfl) (by kernel_rfl) (by kernel_rfl) rfl ?_
                refine Flow.pass_val (.pointer (some ⟨g, p2, none⟩)) (Flow.met_some 2 true 75 rfl rfl (by kernel_rfl) (by kernel_rfl) rfl rfl) (fun a W hH => ?_) ?_
                · have e0 := Flow.see_new 81 8 hH.sees (by kernel_rfl) (by kernel_rfl) rfl rfl
                  have e1 := Flow.see_new 82 9 hH.sees (by kernel_rfl) (by kernel_rfl) rfl rfl
                  exact s_ixS (s := 1) (p2) _ rfl Tryz.underlying74 (by kernel_rfl) (by first | exact e0 | simpa [Act.eval] using e0 | (simp [Act.eval])) (by first | exact e1 | simpa [Act.eval] using e1 | (simp [Act.eval])) (by omega) (by omega) (by omega)
                refine Flow.pass_val (.int .u64 ((d3[p2]! : Nat) : Int)) (Flow.met_some 2 true 75 rfl rfl (by kernel_rfl) (by kernel_rfl) rfl rfl) (fun a W hH => ?_) ?_
                · have e0 := Flow.see_new 83 10 hH.sees (by kernel_rfl) (by kernel_rfl) rfl rfl
                  have cc := nr_cell (hN_W5.below ((Below.refl W5.heap.size W5).drew.trans hH.below) hN_W5.lt) (p2) (by omega); go_simp; first | done | rfl
                refine Flow.pass_step (Reg.eqs (.bool (ltN (d3[(aa - 1)]!) (d3[p2]!)))) (fun _ _ => Flow.kept_eqs _ _) (Flow.met_some 2 true 75 rfl rfl (by kernel_rfl) (by kernel_rfl) rfl rfl) (fun a W hH => ?_) ?_
                · have e0 := Flow.see_new 80 7 hH.sees (by kernel_rfl) (by kernel_rfl) rfl rfl
                  have e1 := Flow.see_new 84 11 hH.sees (by kernel_rfl) (by kernel_rfl) rfl rfl
                  refine Reg.wp_call rfl Tryz.func162 rfl (by kernel_rfl) (by simp [Act.eval, e0, e1]) (lessN (d3[(aa - 1)]!) (d3[p2]!) W) ?_
                  rintro e w' ⟨rfl, rfl⟩
                  exact ⟨_, rfl, _, rfl, Ext.refl _, rfl⟩
                refine Flow.pass_val (.bool (!(ltN (d3[(aa - 1)]!) (d3[p2]!)))) (Flow.met_some 2 true 75 rfl rfl (by kernel_rfl) (by kernel_rfl) rfl rfl) (fun a W hH => ?_) ?_
                · have e0 := Flow.see_new 85 12 hH.sees (by kernel_rfl) (by kernel_rfl) rfl rfl
                  go_simp; first | done | rfl
                refine Flow.pass_val (.bool (!(ltN (d3[(aa - 1)]!) (d3[p2]!)))) (Flow.met_none rfl) (fun a W hH => ?_) ?_
                · have e0 := Flow.see_new 75 2 hH.sees (by kernel_rfl) (by kernel_rfl) rfl rfl
                  have e1 := Flow.see_new 86 13 hH.sees (by kernel_rfl) (by kernel_rfl) rfl rfl
                  go_simp; first | done | rfl
                refine Flow.pass_end [none, none, none, none, none, none, none, none, none, none, none, none, none, none, none, none, none, none, none, none, none, none, none, none, none, none, none, none, none, none, none, none, none, none, none, none, none, none, none, none, none, none, none, none, none, none, none, none, none, none, none, none, none, none, none, none, none, none, none, none, none, none, none, none, none, none, none, none, none, none, none, none, none, some 73, some 74, some 75, some 76, some 77, some 78, some 79, some 80, some 81, some 82, some 83, some 84, some 85, some 86, some 87, none, none, none, none, none, none, none, none, none, none, none, none, none, none, none, none, none, none, none, none, none, none, none, none, none, none, none, none, none, none, none, none, none, none, none, none, none, none, none, none, none, none, none, none, none, none] (by kernel_rfl) ?_
                intro f gg w9 hB hfa hT hfg
                have h87 : f 87 = _ := (hfg 87 14 (by kernel_rfl)).trans (hT 14 _ (by kernel_rfl) rfl)
                exact hQ1 f w9 ⟨by rw [h87, decide_eq_true hg, Bool.true_and], (Below.refl W5.heap.size W5).drew.trans hB⟩
              · skip
                refine Flow.wp_region_flow (W5.heap.size) [] [] (by kernel_rfl) (by kernel_rfl) (Nat.le_refl _) (fun _ h => by cases h) Flow.facts_nil ?_
                refine Flow.pass_old (X := .int .i64 ((aa : Int))) 1 (Flow.met_none rfl) (.inl rfl) (by kernel_rfl) (by kernel_rfl) rfl ?_
                refine Flow.pass_val (.bool false) (Flow.met_none rfl) (fun a W hH => ?_) ?_
                · have e0 := Flow.see_new 73 0 hH.sees (by kernel_rfl) (by kernel_rfl) rfl rfl
                  go_simp; first | done | rfl | omega | (simp; done) | (simp; omega) | exact decide_eq_true (by omega) | exact decide_eq_false (by omega)
                refine Flow.pass_copy 74 1 (Flow.met_none rfl) (.inl rfl) (by kernel_rfl) (by kernel_rfl) rfl rfl (fun _ _ => Flow.kept_eqs _ _) ?_
                refine Flow.pass_skip (fun a W hH => Flow.not_wanted 2 true 75 hH rfl rfl (by kernel_rfl) (by kernel_rfl) rfl rfl) ?_
                refine Flow.pass_skip (fun a W hH => Flow.not_wanted 2 true 75 hH rfl rfl (by kernel_rfl) (by kernel_rfl) rfl rfl) ?_
                refine Flow.pass_skip (fun a W hH => Flow.not_wanted 2 true 75 hH rfl rfl (by kernel_rfl) (by kernel_rfl) rfl rfl) ?_
                refine Flow.pass_skip (fun a W hH => Flow.not_wanted 2 true 75 hH rfl rfl (by kernel_rfl) (by kernel_rfl) rfl rfl) ?_
                refine Flow.pass_skip (fun a W hH => Flow.not_wanted 2 true 75 hH rfl rfl (by kernel_rfl) (by kernel_rfl) rfl rfl) ?_
                refine Flow.pass_skip (fun a W hH => Flow.not_wanted 2 true 75 hH rfl rfl (by kernel_rfl) (by kernel_rfl) rfl rfl) ?_
                refine Flow.pass_skip (fun a W hH => Flow.not_wanted 2 true 75 hH rfl rfl (by kernel_rfl) (by kernel_rfl) rfl rfl) ?_
                refine Flow.pass_skip (fun a W hH => Flow.not_wanted 2 true 75 hH rfl rfl (by kernel_rfl) (by kernel_rfl) rfl rfl) ?_
                refine Flow.pass_skip (fun a W hH => Flow.not_wanted 2 true 75 hH rfl rfl (by kernel_rfl) (by kernel_rfl) rfl rfl) ?_
                refine Flow.pass_skip (fun a W hH => Flow.not_wanted 2 true 75 hH rfl rfl (by kernel_rfl) (by kernel_rfl) rfl rfl) ?_
                refine Flow.pass_skip (fun a W hH => Flow.not_wanted 2 true 75 hH rfl rfl (by kernel_rfl) (by kernel_rfl) rfl rfl) ?_
                refine Flow.pass_val (.bool false) (Flow.met_none rfl) (fun a W hH => ?_) ?_
                · have e0 := Flow.see_new 75 2 hH.sees (by kernel_rfl) (by kernel_rfl) rfl rfl
                  have e1 := Flow.see_new 86 13 hH.sees (by kernel_rfl) (by kernel_rfl) rfl rfl
                  go_simp; first | done | rfl
                refine Flow.pass_end [none, none, none, none, none, none, none, none, none, none, none, none, none, none, none, none, none, none, none, none, none, none, none, none, none, none, none, none, none, none, none, none, none, none, none, none, none, none, none, none, none, none, none, none, none, none, none, none, none, none, none, none, none, none, none, none, none, none, none, none, none, none, none, none, none, none, none, none, none, none, none, none, none, some 73, some 74, some 75, some 76, some 77, some 78, some 79, some 80, some 81, some 82, some 83, some 84, some 85, some 86, some 87, none, none, none, none, none, none, none, none, none, none, none, none, none, none, none, none, none, none, none, none, none, none, none, none, none, none, none, none, none, none, none, none, none, none, none, none, none, none, none, none, none, none, none, none, none, none] (by kernel_rfl) ?_
                intro f gg w9 hB hfa hT hfg
                have h87 : f 87 = _ := (hfg 87 14 (by kernel_rfl)).trans (hT 14 _ (by kernel_rfl) rfl)
                exact hQ1 f w9 ⟨by rw [h87, decide_eq_false hg, Bool.false_and], (Below.refl W5.heap.size W5).drew.trans hB⟩
            intro f Wt ⟨h87, hBWt⟩
            simp only [Reg.sel, h87]
            have hN_Wt := Blk.below hN_W5 hBWt (Blk.lt hN_W5)
            have hC_Wt := hC_W5.trans (Chg.of_ext hBWt)
            clear h87 hBWt
            cases hq : (decide (0 < aa) && !ltN d3[aa - 1]! d3[p2]!) with
            | true =>
              have hq2 : 0 < aa ∧ ltN d3[aa - 1]! d3[p2]! = false := by simpa using hq
              obtain ⟨z1, z2, z3⟩ := hI_d3.out.eq hq2.1 hp2.1 hp2.2 hq2.2
              have hcall := partitionEqual_walk g R d3 n cap aa bb p2 hI_d3.out.size hp2.1 hp2.2 hbn hn5 Wt hN_Wt
              generalize Sort.partitionEqual ltN d3 aa bb p2 = r at *
              obtain ⟨mid, d5⟩ := r
              have z1 : aa < mid := z1
              have z2 : mid ≤ bb := z2
              have z3 : PI mid bb n d5 G := z3
              have z3 := Lib.hid z3
              clear hq hq2
              go_wp2_with fail
              refine Calls.mono hcall ?_
              rintro e W7 ⟨rfl, hN7, hC7⟩
              clear hcall
              go_wp2
              go_roundw
              case rel => first | exact ⟨mid, bb, l1, false, wp, d5, rfl, rfl, rfl, rfl, rfl, by omega, z2, hbn, by omega, hl12, z3, hN7, hC_Wt.trans hC7⟩ | ((repeat apply Exists.intro); refine ⟨?_, rfl⟩; exact ⟨mid, bb, l1, false, wp, d5, rfl, rfl, rfl, rfl, rfl, by omega, z2, hbn, by omega, hl12, z3, hN7, hC_Wt.trans hC7⟩)
              case measure => first | (simp [intOf]; done) | (simp [intOf]; omega) | (simp only [intOf]; omega)
            | false =>
              obtain ⟨z1, z2, z3, z4, z5, z6, z7⟩ := hI_d3.out.part hp2.1 hp2.2
              have hcall := partition_walk g R d3 n cap aa bb p2 hI_d3.out.size hp2.1 hp2.2 hbn hn5 Wt hN_Wt
              generalize Sort.partition ltN d3 aa bb p2 = r at *
              obtain ⟨mid, ap, d5⟩ := r
              have z1 : aa ≤ mid := z1
              have z2 : mid < bb := z2
              have z3 : Sort.Below ltN aa mid d5 := z3
              have z4 : Sort.Below ltN (mid + 1) bb d5 := z4
              have z5 : d5.size = n := z5
              have z6 : ∀ L, Sort.PermIn aa mid d5 L → Sort.SortedIn ltN aa mid L → PI (mid + 1) bb n L G := z6
              have z7 : ∀ L, Sort.PermIn (mid + 1) bb d5 L → Sort.SortedIn ltN (mid + 1) bb L → PI aa mid n L G := z7
              have z6 := Lib.hid z6
              have z7 := Lib.hid z7
              have z3 := Lib.hid z3
              have z4 := Lib.hid z4
              clear hq
              go_wp2_with fail
              refine Calls.mono hcall ?_
              rintro e W7 ⟨rfl, hN7, hC7⟩
              have hC_W7 := hC_Wt.trans hC7
              have q1 : IntKind.i64.wrap ((mid : Int) - (aa : Int)) = (mid : Int) - (aa : Int) := IntWalk.i64_in _ (by omega)
              have q2 : IntKind.i64.wrap ((bb : Int) - (mid : Int)) = (bb : Int) - (mid : Int) := IntWalk.i64_in _ (by omega)
              have q3 : IntKind.i64.wrap ((mid : Int) + 1) = ((mid + 1 : Nat) : Int) := by rw [IntWalk.i64_in _ (by omega)]; omega
              clear hcall hC7 hC_Wt
              by_cases hlr : mid - aa < bb - mid
              · have hlri : (mid : Int) - (aa : Int) < (bb : Int) - (mid : Int) := by omega
                have hrec := ih (mid - aa) (by omega) d5 aa mid l1 W7 rfl z5 z1 (by omega) hl12 z3.out hN7
                go_wp2_with fail
                refine Calls.mono hrec ?_
                rintro e W8 ⟨rfl, d6, ⟨hp6, hs6⟩, hN8, hC8⟩
                have hI6 := Lib.hid (z6.out d6 hp6 hs6)
                clear hrec hp6 hs6
                go_wp2
                go_roundw
                case rel => first | exact ⟨mid + 1, bb, l1, _, ap, d6, by go_num, rfl, rfl, rfl, rfl, by omega, by omega, hbn, by omega, hl12, hI6, hN8, hC_W7.trans hC8⟩ | ((repeat apply Exists.intro); refine ⟨?_, rfl⟩; exact ⟨mid + 1, bb, l1, _, ap, d6, by go_num, rfl, rfl, rfl, rfl, by omega, by omega, hbn, by omega, hl12, hI6, hN8, hC_W7.trans hC8⟩)
                case measure => first | (simp [intOf]; done) | (simp [intOf]; omega) | (simp only [intOf]; omega)
              · have hlri : ¬ (mid : Int) - (aa : Int) < (bb : Int) - (mid : Int) := by omega
                have hrec := ih (bb - (mid + 1)) (by omega) d5 (mid + 1) bb l1 W7 rfl z5 (by omega) hbn hl12 z4.out hN7
                go_wp2_with fail
                refine Calls.mono hrec ?_
                rintro e W8 ⟨rfl, d6, ⟨hp6, hs6⟩, hN8, hC8⟩
                have hI6 := Lib.hid (z7.out d6 hp6 hs6)
                clear hrec hp6 hs6
                go_wp2
                go_roundw
                case rel => first | exact ⟨aa, mid, l1, _, ap, d6, rfl, rfl, rfl, rfl, rfl, hla, z1, by omega, by omega, hl12, hI6, hN8, hC_W7.trans hC8⟩ | ((repeat apply Exists.intro); refine ⟨?_, rfl⟩; exact ⟨aa, mid, l1, _, ap, d6, rfl, rfl, rfl, rfl, rfl, hla, z1, by omega, by omega, hl12, hI6, hN8, hC_W7.trans hC8⟩)
                case measure => first | (simp [intOf]; done) | (simp [intOf]; omega) | (simp only [intOf]; omega)
        | true =>
          cases wp with
          | false =>
            have hcall := choosePivot_walk g R d1 n cap aa bb hI_d1.out.size (by omega) hbn hn5 wr hN_wr
            go_wp2_with fail
            refine Calls.mono hcall ?_
            rintro e W3 ⟨p, hint, hp, hh, rfl, hN_W3, hB3⟩
            have hC_W3 : Chg (OnlyG g) w W3 := hC_wr.trans (Chg.of_ext hB3)
            clear hcall hB3
            rcases hh with rfl | rfl | rfl
            · skip
              go_wp2_with fail
              have hs_d1 : d1.size = n := hI_d1.out.size
              refine s_cut [none, none, none, none, none, none, none, none, none, none, none, none, none, none, none, none, none, none, none, none, none, none, none, none, none, none, none, none, none, none, none, none, none, none, none, none, none, none, none, none, none, none, none, none, none, none, none, none, none, none, none, none, none, none, none, none, none, none, none, none, none, none, none, none, none, none, none, none, none, none, none, none, none, some 73, some 74, some 75, some 76, some 77, some 78, some 79, some 80, some 81, some 82, some 83, some 84, some 85, some 86, some 87, none, none, none, none, none, none, none, none, none, none, none, none, none, none, none, none, none, none, none, none, none, none, none, none, none, none, none, none, none, none, none, none, none, none, none, none, none, none, none, none, none, none, none, none, none, none] (fun f W => f 87 = .bool (decide (0 < aa) && !ltN d1[aa - 1]! d1[p]!) ∧ Below W3.heap.size W3 W) (fun Q1 hQ1 => ?_) ?_
              · by_cases hg : 0 < aa
                · skip
                  refine Flow.wp_region_flow (W3.heap.size) [] [] (by kernel_rfl) (by kernel_rfl) (Nat.le_refl _) (fun _ h => by cases h) Flow.facts_nil ?_
                  refine Flow.pass_old (X := .int .i64 ((aa : Int))) 1 (Flow.met_none rfl) (.inl rfl) (by kernel_rfl) (by kernel_rfl) rfl ?_
                  refine Flow.pass_val (.bool true) (Flow.met_none rfl) (fun a W hH => ?_) ?_
                  · have e0 := Flow.see_new 73 0 hH.sees (by kernel_rfl) (by kernel_rfl) rfl rfl
                    go_simp; first | done | rfl | omega | (simp; done) | (simp; omega) | exact decide_eq_true (by omega) | exact decide_eq_false (by omega)
                  refine Flow.pass_copy 74 1 (Flow.met_none rfl) (.inl rfl) (by kernel_rfl) (by kernel_rfl) rfl rfl (fun _ _ => Flow.kept_eqs _ _) ?_
                  refine Flow.pass_old (X := .slice (some ⟨g, 0, none⟩) n cap) 0 (Flow.met_some 2 true 75 rfl rfl (by kernel_rfl) (by kernel_rfl) rfl rfl) (.inl rfl) (by kernel_rfl) (by kernel_rfl) rfl ?_
                  refine Flow.pass_old (X := .int .i64 ((aa : Int))) 1 (Flow.met_some 2 true 75 rfl rfl (by kernel_rfl) (by kernel_rfl) rfl rfl) (.inl rfl) (by kernel_rfl) (by kernel_rfl) rfl ?_
                  refine Flow.pass_val (.int .i64 ((aa : Int) - 1)) (Flow.met_some 2 true 75 rfl rfl (by kernel_rfl) (by kernel_rfl) rfl rfl) (fun a W hH => ?_) ?_
                  · have e0 := Flow.see_new 77 4 hH.sees (by kernel_rfl) (by kernel_rfl) rfl rfl
                    go_simp; first | done | rfl | (rw [IntWalk.i64_in _ (by omega)]; first | done | rfl | omega | (simp; done))
                  refine Flow.pass_val (.pointer (some ⟨g, (aa - 1), none⟩)) (Flow.met_some 2 true 75 rfl rfl (by kernel_rfl) (by kernel_rfl) rfl rfl) (fun a W hH => ?_) ?_
                  · have e0 := Flow.see_new 76 3 hH.sees (by kernel_rfl) (by kernel_rfl) rfl rfl
                    have e1 := Flow.see_new 78 5 hH.sees (by kernel_rfl) (by kernel_rfl) rfl rfl
                    exact s_ixS (s := 1) ((aa - 1)) _ rfl Tryz.underlying74 (by kernel_rfl) (by first | exact e0 | simpa [Act.eval] using e0 | (simp [Act.eval])) (by first | exact e1 | simpa [Act.eval] using e1 | (simp [Act.eval])) (by omega) (by omega) (by omega)
                  refine Flow.pass_val (.int .u64 ((d1[(aa - 1)]! : Nat) : Int)) (Flow.met_some 2 true 75 rfl rfl (by kernel_rfl) (by kernel_rfl) rfl rfl) (fun a W hH => ?_) ?_
                  · have e0 := Flow.see_new 79 6 hH.sees (by kernel_rfl) (by kernel_rfl) rfl rfl
                    have cc := nr_cell (hN_W3.below ((Below.refl W3.heap.size W3).drew.trans hH.below) hN_W3.lt) ((aa - 1)) (by omega); go_simp; first | done | rfl
                  refine Flow.pass_old (X := .slice (some ⟨g, 0, none⟩) n cap) 0 (Flow.met_some 2 true 75 rfl rfl (by kernel_rfl) (by kernel_rfl) rfl rfl) (.inl rfl) (by kernel_rfl) (by kernel_rfl) rfl ?_
                  refine Flow.pass_old (X := .int .i64 ((p : Int))) 11 (Flow.met_some 2 true 75 rfl rfl (by kernel_rfl) (by kernel_rfl) rfl rfl) (.inl rfl) (by kernel_rfl) (by kernel_rfl) rfl ?_
                  refine Flow.pass_val (.pointer (some ⟨g, p, none⟩)) (Flow.met_some 2 true 75 rfl rfl (by kernel_rfl) (by kernel_rfl) rfl rfl) (fun a W hH => ?_) ?_
                  · have e0 := Flow.see_new 81 8 hH.sees (by kernel_rfl) (by kernel_rfl) rfl rfl
                    have e1 := Flow.see_new 82 9 hH.sees (by kernel_rfl) (by kernel_rfl) rfl rfl
                    exact s_ixS (s := 1) (p) _ rfl Tryz.underlying74 (by kernel_rfl) (by first | exact e0 | simpa [Act.eval] using e0 | (simp [Act.eval])) (by first | exact e1 | simpa [Act.eval] using e1 | (simp [Act.eval])) (by omega) (by omega) (by omega)
                  refine Flow.pass_val (.int .u64 ((d1[p]! : Nat) : Int)) (Flow.met_some 2 true 75 rfl rfl (by kernel_rfl) (by kernel_rfl) rfl rfl) (fun a W hH => ?_) ?_
                  · have e0 := Flow.see_new 83 10 hH.sees (by kernel_rfl) (by kernel_rfl) rfl rfl
                    have cc := nr_cell (hN_W3.below ((Below.refl W3.heap.size W3).drew.trans hH.below) hN_W3.lt) (p) (by omega); go_simp; first | done | rfl
                  refine Flow.pass_step (Reg.eqs (.bool (ltN (d1[(aa - 1)]!) (d1[p]!)))) (fun _ _ => Flow.kept_eqs _ _) (Flow.met_some 2 true 75 rfl rfl (by kernel_rfl) (by kernel_rfl) rfl rfl) (fun a W hH => ?_) ?_
                  · have e0 := Flow.see_new 80 7 hH.sees (by kernel_rfl) (by kernel_rfl) rfl rfl
                    have e1 := Flow.see_new 84 11 hH.sees (by kernel_rfl) (by kernel_rfl) rfl rfl
                    refine Reg.wp_call rfl Tryz.func162 rfl (by kernel_rfl) (by simp [Act.eval, e0, e1]) (lessN (d1[(aa - 1)]!) (d1[p]!) W) ?_
                    rintro e w' ⟨rfl, rfl⟩
                    exact ⟨_, rfl, _, rfl, Ext.refl _, rfl⟩
                  refine Flow.pass_val (.bool (!(ltN (d1[(aa - 1)]!) (d1[p]!)))) (Flow.met_some 2 true 75 rfl rfl (by kernel_rfl) (by kernel_rfl) rfl rfl) (fun a W hH => ?_) ?_
                  · have e0 := Flow.see_new 85 12 hH.sees (by kernel_rfl) (by kernel_rfl) rfl rfl
                    go_simp; first | done | rfl
                  refine Flow.pass_val (.bool (!(ltN (d1[(aa - 1)]!) (d1[p]!)))) (Flow.met_none rfl) (fun a W hH => ?_) ?_
                  · have e0 := Flow.see_new 75 2 hH.sees (by kernel_rfl) (by kernel_rfl) rfl rfl
                    have e1 := Flow.see_new 86 13 hH.sees (by kernel_rfl) (by kernel_rfl) rfl rfl
                    go_simp; first | done | rfl
                  refine Flow.pass_end [none, none, none, none, none, none, none, none, none, none, none, none, none, none, none, none, none, none, none, none, none, none, none, none, none, none, none, none, none, none, none, none, none, none, none, none, none, none, none, none, none, none, none, none, none, none, none, none, none, none, none, none, none, none, none, none, none, none, none, none, none, none, none, none, none, none, none, none, none, none, none, none, none, some 73, some 74, some 75, some 76, some 77, some 78, some 79, some 80, some 81, some 82, some 83, some 84, some 85, some 86, some 87, none, none, none, none, none, none, none, none, none, none, none, none, none, none, none, none, none, none, none, none, none, none, none, none, none, none, none, none, none, none, none, none, none, none, none, none, none, none, none, none, none, none, none, none, none, none] (by kernel_rfl) ?_
                  intro f gg w9 hB hfa hT hfg
                  have h87 : f 87 = _ := (hfg 87 14 (by kernel_rfl)).trans (hT 14 _ (by kernel_rfl) rfl)
                  exact hQ1 f w9 ⟨by rw [h87, decide_eq_true hg, Bool.true_and], (Below.refl W3.heap.size W3).drew.trans hB⟩
                · skip
                  refine Flow.wp_region_flow (W3.heap.size) [] [] (by kernel_rfl) (by kernel_rfl) (Nat.le_refl _) (fun _ h => by cases h) Flow.facts_nil ?_
                  refine Flow.pass_old (X := .int .i64 ((aa : Int))) 1 (Flow.met_none rfl) (.inl rfl) (by kernel_rfl) (by kernel_rfl) rfl ?_
                  refine Flow.pass_val (.bool false) (Flow.met_none rfl) (fun a W hH => ?_) ?_
                  · have e0 := Flow.see_new 73 0 hH.sees (by kernel_rfl) (by kernel_rfl) rfl rfl
                    go_simp; first | done | rfl | omega | (simp; done) | (simp; omega) | exact decide_eq_true (by omega) | exact decide_eq_false (by omega)
                  refine Flow.pass_copy 74 1 (Flow.met_none rfl) (.inl rfl) (by kernel_rfl) (by kernel_rfl) rfl rfl (fun _ _ => Flow.kept_eqs _ _) ?_
                  refine Flow.pass_skip (fun a W hH => Flow.not_wanted 2 true 75 hH rfl rfl (by kernel_rfl) (by kernel_rfl) rfl rfl) ?_
                  refine Flow.pass_skip (fun a W hH => Flow.not_wanted 2 true 75 hH rfl rfl (by kernel_rfl) (by kernel_rfl) rfl rfl) ?_
                  refine Flow.pass_skip (fun a W hH => Flow.not_wanted 2 true 75 hH rfl rfl (by kernel_rfl) (by kernel_rfl) rfl rfl) ?_
                  refine Flow.pass_skip (fun a W hH => Flow.not_wanted 2 true 75 hH rfl rfl (by kernel_rfl) (by kernel_rfl) rfl rfl) ?_
                  refine Flow.pass_skip (fun a W hH => Flow.not_wanted 2 true 75 hH rfl rfl (by kernel_rfl) (by kernel_rfl) rfl rfl) ?_
                  refine Flow.pass_skip (fun a W hH => Flow.not_wanted 2 true 75 hH rfl rfl (by kernel_rfl) (by kernel_rfl) rfl rfl) ?_
                  refine Flow.pass_skip (fun a W hH => Flow.not_wanted 2 true 75 hH rfl rfl (by kernel_rfl) (by kernel_rfl) rfl rfl) ?_
                  refine Flow.pass_skip (fun a W hH => Flow.not_wanted 2 true 75 hH rfl rfl (by kernel_rfl) (by kernel_rfl) rfl rfl) ?_
                  refine Flow.pass_skip (fun a W hH => Flow.not_wanted 2 true 75 hH rfl rfl (by kernel_rfl) (by kernel_rfl) rfl rfl) ?_
                  refine Flow.pass_skip (fun a W hH => Flow.not_wanted 2 true 75 hH rfl rfl (by kernel_rfl) (by kernel_rfl) rfl rfl) ?_
                  refine Flow.pass_skip (fun a W hH => Flow.not_wanted 2 true 75 hH rfl rfl (by kernel_rfl) (by kernel_rfl) rfl rfl) ?_
                  refine Flow.pass_val (.bool false) (Flow.met_none rfl) (fun a W hH => ?_) ?_
                  · have e0 := Flow.see_new 75 2 hH.sees (by kernel_rfl) (by kernel_rfl) rfl rfl
                    have e1 := Flow.see_new 86 13 hH.sees (by kernel_rfl) (by kernel_rfl) rfl rfl
                    go_simp; first | done | rfl
                  refine Flow.pass_end [none, none, none, none, none, none, none, none, none, none, none, none, none, none, none, none, none, none, none, none, none, none, none, none, none, none, none, none, none, none, none, none, none, none, none, none, none, none, none, none, none, none, none, none, none, none, none, none, none, none, none, none, none, none, none, none, none, none, none, none, none, none, none, none, none, none, none, none, none, none, none, none, none, some 73, some 74, some 75, some 76, some 77, some 78, some 79, some 80, some 81, some 82, some 83, some 84, some 85, some 86, some 87, none, none, none, none, none, none, none, none, none, none, none, none, none, none, none, none, none, none, none, none, none, none, none, none, none, none, none, none, none, none, none, none, none, none, none, none, none, none, none, none, none, none, none, none, none, none] (by kernel_rfl) ?_
                  intro f gg w9 hB hfa hT hfg
                  have h87 : f 87 = _ := (hfg 87 14 (by kernel_rfl)).trans (hT 14 _ (by kernel_rfl) rfl)
                  exact hQ1 f w9 ⟨by rw [h87, decide_eq_false hg, Bool.false_and], (Below.refl W3.heap.size W3).drew.trans hB⟩
              intro f Wt ⟨h87, hBWt⟩
              simp only [Reg.sel, h87]
              have hN_Wt := Blk.below hN_W3 hBWt (Blk.lt hN_W3)
              have hC_Wt := hC_W3.trans (Chg.of_ext hBWt)
              clear h87 hBWt
              cases hq : (decide (0 < aa) && !ltN d1[aa - 1]! d1[p]!) with
              | true =>
                have hq2 : 0 < aa ∧ ltN d1[aa - 1]! d1[p]! = false := by simpa using hq
                obtain ⟨z1, z2, z3⟩ := hI_d1.out.eq hq2.1 hp.1 hp.2 hq2.2
                have hcall := partitionEqual_walk g R d1 n cap aa bb p hI_d1.out.size hp.1 hp.2 hbn hn5 Wt hN_Wt
                generalize Sort.partitionEqual ltN d1 aa bb p = r at *
                obtain ⟨mid, d5⟩ := r
                have z1 : aa < mid := z1
                have z2 : mid ≤ bb := z2
                have z3 : PI mid bb n d5 G := z3
                have z3 := Lib.hid z3
                clear hq hq2
                go_wp2_with fail
                refine Calls.mono hcall ?_
                rintro e W7 ⟨rfl, hN7, hC7⟩
                clear hcall
                go_wp2
                go_roundw
                case rel => first | exact ⟨mid, bb, l, true, false, d5, rfl, rfl, rfl, rfl, rfl, by omega, z2, hbn, by omega, hl, z3, hN7, hC_Wt.trans hC7⟩ | ((repeat apply Exists.intro); refine ⟨?_, rfl⟩; exact ⟨mid, bb, l, true, false, d5, rfl, rfl, rfl, rfl, rfl, by omega, z2, hbn, by omega, hl, z3, hN7, hC_Wt.trans hC7⟩)
                case measure => first | (simp [intOf]; done) | (simp [intOf]; omega) | (simp only [intOf]; omega)
              | false =>
                obtain ⟨z1, z2, z3, z4, z5, z6, z7⟩ := hI_d1.out.part hp.1 hp.2
                have hcall := partition_walk g R d1 n cap aa bb p hI_d1.out.size hp.1 hp.2 hbn hn5 Wt hN_Wt
                generalize Sort.partition ltN d1 aa bb p = r at *
                obtain ⟨mid, ap, d5⟩ := r
                have z1 : aa ≤ mid := z1
                have z2 : mid < bb := z2
                have z3 : Sort.Below ltN aa mid d5 := z3
                have z4 : Sort.Below ltN (mid + 1) bb d5 := z4
                have z5 : d5.size = n := z5
                have z6 : ∀ L, Sort.PermIn aa mid d5 L → Sort.SortedIn ltN aa mid L → PI (mid + 1) bb n L G := z6
                have z7 : ∀ L, Sort.PermIn (mid + 1) bb d5 L → Sort.SortedIn ltN (mid + 1) bb L → PI aa mid n L G := z7
                have z6 := Lib.hid z6
                have z7 := Lib.hid z7
                have z3 := Lib.hid z3
                have z4 := Lib.hid z4
                clear hq
                go_wp2_with fail
                refine Calls.mono hcall ?_
                rintro e W7 ⟨rfl, hN7, hC7⟩
                have hC_W7 := hC_Wt.trans hC7
                have q1 : IntKind.i64.wrap ((mid : Int) - (aa : Int)) = (mid : Int) - (aa : Int) := IntWalk.i64_in _ (by omega)
                have q2 : IntKind.i64.wrap ((bb : Int) - (mid : Int)) = (bb : Int) - (mid : Int) := IntWalk.i64_in _ (by omega)
                have q3 : IntKind.i64.wrap ((mid : Int) + 1) = ((mid + 1 : Nat) : Int) := by rw [IntWalk.i64_in _ (by omega)]; omega
                clear hcall hC7 hC_Wt
                by_cases hlr : mid - aa < bb - mid
                · have hlri : (mid : Int) - (aa : Int) < (bb : Int) - (mid : Int) := by omega
                  have hrec := ih (mid - aa) (by omega) d5 aa mid l W7 rfl z5 z1 (by omega) hl z3.out hN7
                  go_wp2_with fail
                  refine Calls.mono hrec ?_
                  rintro e W8 ⟨rfl, d6, ⟨hp6, hs6⟩, hN8, hC8⟩
                  have hI6 := Lib.hid (z6.out d6 hp6 hs6)
                  clear hrec hp6 hs6
                  go_wp2
                  go_roundw
                  case rel => first | exact ⟨mid + 1, bb, l, _, ap, d6, by go_num, rfl, rfl, rfl, rfl, by omega, by omega, hbn, by omega, hl, hI6, hN8, hC_W7.trans hC8⟩ | ((repeat apply Exists.intro); refine ⟨?_, rfl⟩; exact ⟨mid + 1, bb, l, _, ap, d6, by go_num, rfl, rfl, rfl, rfl, by omega, by omega, hbn, by omega, hl, hI6, hN8, hC_W7.trans hC8⟩)
                  case measure => first | (simp [intOf]; done) | (simp [intOf]; omega) | (simp only [intOf]; omega)
                · have hlri : ¬ (mid : Int) - (aa : Int) < (bb : Int) - (mid : Int) := by omega
                  have hrec := ih (bb - (mid + 1)) (by omega) d5 (mid + 1) bb l W7 rfl z5 (by omega) hbn hl z4.out hN7
                  go_wp2_with fail
                  refine Calls.mono hrec ?_
                  rintro e W8 ⟨rfl, d6, ⟨hp6, hs6⟩, hN8, hC8⟩
                  have hI6 := Lib.hid (z7.out d6 hp6 hs6)
                  clear hrec hp6 hs6
                  go_wp2
                  go_roundw
                  case rel => first | exact ⟨aa, mid, l, _, ap, d6, rfl, rfl, rfl, rfl, rfl, hla, z1, by omega, by omega, hl, hI6, hN8, hC_W7.trans hC8⟩ | ((repeat apply Exists.intro); refine ⟨?_, rfl⟩; exact ⟨aa, mid, l, _, ap, d6, rfl, rfl, rfl, rfl, rfl, hla, z1, by omega, by omega, hl, hI6, hN8, hC_W7.trans hC8⟩)
                  case measure => first | (simp [intOf]; done) | (simp [intOf]; omega) | (simp only [intOf]; omega)
            · skip
              go_wp2_with fail
              have hs_d1 : d1.size = n := hI_d1.out.size
              refine s_cut [none, none, none, none, none, none, none, none, none, none, none, none, none, none, none, none, none, none, none, none, none, none, none, none, none, none, none, none, none, none, none, none, none, none, none, none, none, none, none, none, none, none, none, none, none, none, none, none, none, none, none, none, none, none, none, none, none, none, none, none, none, none, none, none, none, none, none, none, none, none, none, none, none, some 73, some 74, some 75, some 76, some 77, some 78, some 79, some 80, some 81, some 82, some 83, some 84, some 85, some 86, some 87, none, none, none, none, none, none, none, none, none, none, none, none, none, none, none, none, none, none, none, none, none, none, none, none, none, none, none, none, none, none, none, none, none, none, none, none, none, none, none, none, none, none, none, none, none, none] (fun f W => f 87 = .bool (decide (0 < aa) && !ltN d1[aa - 1]! d1[p]!) ∧ Below W3.heap.size W3 W) (fun Q1 hQ1 => ?_) ?_
              · by_cases hg : 0 < aa
                · skip
                  refine Flow.wp_region_flow (W3.heap.size) [] [] (by kernel_rfl) (by kernel_rfl) (Nat.le_refl _) (fun _ h => by cases h) Flow.facts_nil ?_
                  refine Flow.pass_old (X := .int .i64 ((aa : Int))) 1 (Flow.met_none rfl) (.inl rfl) (by kernel_rfl) (by kernel_rfl) rfl ?_
                  refine Flow.pass_val (.bool true) (Flow.met_none rfl) (fun a W hH => ?_) ?_
                  · have e0 := Flow.see_new 73 0 hH.sees (by kernel_rfl) (by kernel_rfl) rfl rfl
                    go_simp; first | done | rfl | omega | (simp; done) | (simp; omega) | exact decide_eq_true (by omega) | exact decide_eq_false (by omega)
                  refine Flow.pass_copy 74 1 (Flow.met_none rfl) (.inl rfl) (by kernel_rfl) (by kernel_rfl) rfl rfl (fun _ _ => Flow.kept_eqs _ _) ?_
                  refine Flow.pass_old (X := .slice (some ⟨g, 0, none⟩) n cap) 0 (Flow.met_some 2 true 75 rfl rfl (by kernel_rfl) (by kernel_rfl) rfl rfl) (.inl rfl) (by kernel_rfl) (by kernel_rfl) rfl ?_
                  refine Flow.pass_old (X := .int .i64 ((aa : Int))) 1 (Flow.met_some 2 true 75 rfl rfl (by kernel_rfl) (by kernel_rfl) rfl rfl) (.inl rfl) (by kernel_rfl) (by kernel_rfl) rfl ?_
                  refine Flow.pass_val (.int .i64 ((aa : Int) - 1)) (Flow.met_some 2 true 75 rfl rfl (by kernel_rfl) (by kernel_rfl) rfl rfl) (fun a W hH => ?_) ?_
                  · have e0 := Flow.see_new 77 4 hH.sees (by kernel_rfl) (by kernel_rfl) rfl rfl
                    go_simp; first | done | rfl | (rw [IntWalk.i64_in _ (by omega)]; first | done | rfl | omega | (simp; done))
                  refine Flow.pass_val (.pointer (some ⟨g, (aa - 1), none⟩)) (Flow.met_some 2 true 75 rfl rfl (by kernel_rfl) (by kernel_rfl) rfl rfl) (fun a W hH => ?_) ?_
                  · have e0 := Flow.see_new 76 3 hH.sees (by kernel_rfl) (by kernel_rfl) rfl rfl
                    have e1 := Flow.see_new 78 5 hH.sees (by kernel_rfl) (by kernel_rfl) rfl rfl
                    exact s_ixS (s := 1) ((aa - 1)) _ rfl Tryz.underlying74 (by kernel_rfl) (by first | exact e0 | simpa [Act.eval] using e0 | (simp [Act.eval])) (by first | exact e1 | simpa [Act.eval] using e1 | (simp [Act.eval])) (by omega) (by omega) (by omega)
                  refine Flow.pass_val (.int .u64 ((d1[(aa - 1)]! : Nat) : Int)) (Flow.met_some 2 true 75 rfl rfl (by kernel_rfl) (by kernel_rfl) rfl rfl) (fun a W hH => ?_) ?_
                  · have e0 := Flow.see_new 79 6 hH.sees (by kernel_rfl) (by kernel_rfl) rfl rfl
                    have cc := nr_cell (hN_W3.below ((Below.refl W3.heap.size W3).drew.trans hH.below) hN_W3.lt) ((aa - 1)) (by omega); go_simp; first | done | rfl
                  refine Flow.pass_old (X := .slice (some ⟨g, 0, none⟩) n cap) 0 (Flow.met_some 2 true 75 rfl rfl (by kernel_rfl) (by kernel_rfl) rfl rfl) (.inl rfl) (by kernel_rfl) (by kernel_rfl) rfl ?_
                  refine Flow.pass_old (X := .int .i64 ((p : Int))) 11 (Flow.met_some 2 true 75 rfl rfl (by kernel_rfl) (by kernel_rfl) rfl rfl) (.inl rfl) (by kernel_rfl) (by kernel_rfl) rfl ?_
                  refine Flow.pass_val (.pointer (some ⟨g, p, none⟩)) (Flow.met_some 2 true 75 rfl rfl (by kernel_rfl) (by kernel_rfl) rfl rfl) (fun a W hH => ?_) ?_
                  · have e0 := Flow.see_new 81 8 hH.sees (by kernel_rfl) (by kernel_rfl) rfl rfl
                    have e1 := Flow.see_new 82 9 hH.sees (by kernel_rfl) (by kernel_rfl) rfl rfl
                    exact s_ixS (s := 1) (p) _ rfl Tryz.underlying74 (by kernel_rfl) (by first | exact e0 | simpa [Act.eval] using e0 | (simp [Act.eval])) (by first | exact e1 | simpa [Act.eval] using e1 | (simp [Act.eval])) (by omega) (by omega) (by omega)
                  refine Flow.pass_val (.int .u64 ((d1[p]! : Nat) : Int)) (Flow.met_some 2 true 75 rfl rfl (by kernel_rfl) (by kernel_rfl) rfl rfl) (fun a W hH => ?_) ?_
                  · have e0 := Flow.see_new 83 10 hH.sees (by kernel_rfl) (by kernel_rfl) rfl rfl
                    have cc := nr_cell (hN_W3.below ((Below.refl W3.heap.size W3).drew.trans hH.below) hN_W3.lt) (p) (by omega); go_simp; first | done | rfl
                  refine Flow.pass_step (Reg.eqs (.bool (ltN (d1[(aa - 1)]!) (d1[p]!)))) (fun _ _ => Flow.kept_eqs _ _) (Flow.met_some 2 true 75 rfl rfl (by kernel_rfl) (by kernel_rfl) rfl rfl) (fun a W hH => ?_) ?_
                  · have e0 := Flow.see_new 80 7 hH.sees (by kernel_rfl) (by kernel_rfl) rfl rfl
                    have e1 := Flow.see_new 84 11 hH.sees (by kernel_rfl) (by kernel_rfl) rfl rfl
                    refine Reg.wp_call rfl Tryz.func162 rfl (by kernel_rfl) (by simp [Act.eval, e0, e1]) (lessN (d1[(aa - 1)]!) (d1[p]!) W) ?_
                    rintro e w' ⟨rfl, rfl⟩
                    exact ⟨_, rfl, _, rfl, Ext.refl _, rfl⟩
                  refine Flow.pass_val (.bool (!(ltN (d1[(aa - 1)]!) (d1[p]!)))) (Flow.met_some 2 true 75 rfl rfl (by kernel_rfl) (by kernel_rfl) rfl rfl) (fun a W hH => ?_) ?_
                  · have e0 := Flow.see_new 85 12 hH.sees (by kernel_rfl) (by kernel_rfl) rfl rfl
                    go_simp; first | done | rfl
                  refine Flow.pass_val (.bool (!(ltN (d1[(aa - 1)]!) (d1[p]!)))) (Flow.met_none rfl) (fun a W hH => ?_) ?_
                  · have e0 := Flow.see_new 75 2 hH.sees (by kernel_rfl) (by kernel_rfl) rfl rfl
                    have e1 := Flow.see_new 86 13 hH.sees (by kernel_rfl) (by kernel_rfl) rfl rfl
                    go_simp; first | done | rfl
                  refine Flow.pass_end [none, none, none, none, none, none, none, none, none, none, none, none, none, none, none, none, none, none, none, none, none, none, none, none, none, none, none, none, none, none, none, none, none, none, none, none, none, none, none, none, none, none, none, none, none, none, none, none, none, none, none, none, none, none, none, none, none, none, none, none, none, none, none, none, none, none, none, none, none, none, none, none, none, some 73, some 74, some 75, some 76, some 77, some 78, some 79, some 80, some 81, some 82, some 83, some 84, some 85, some 86, some 87, none, none, none, none, none, none, none, none, none, none, none, none, none, none, none, none, none, none, none, none, none, none, none, none, none, none, none, none, none, none, none, none, none, none, none, none, none, none, none, none, none, none, none, none, none, none] (by kernel_rfl) ?_
                  intro f gg w9 hB hfa hT hfg
                  have h87 : f 87 = _ := (hfg 87 14 (by kernel_rfl)).trans (hT 14 _ (by kernel_rfl) rfl)
                  exact hQ1 f w9 ⟨by rw [h87, decide_eq_true hg, Bool.true_and], (Below.refl W3.heap.size W3).drew.trans hB⟩
                · skip
                  refine Flow.wp_region_flow (W3.heap.size) [] [] (by kernel_rfl) (by kernel_rfl) (Nat.le_refl _) (fun _ h => by cases h) Flow.facts_nil ?_
                  refine Flow.pass_old (X := .int .i64 ((aa : Int))) 1 (Flow.met_none rfl) (.inl rfl) (by kernel_rfl) (by kernel_rfl) rfl ?_
                  refine Flow.pass_val (.bool false) (Flow.met_none rfl) (fun a W hH => ?_) ?_
                  · have e0 := Flow.see_new 73 0 hH.sees (by kernel_rfl) (by kernel_rfl) rfl rfl
                    go_simp; first | done | rfl | omega | (simp; done) | (simp; omega) | exact decide_eq_true (by omega) | exact decide_eq_false (by omega)
                  refine Flow.pass_copy 74 1 (Flow.met_none rfl) (.inl rfl) (by kernel_rfl) (by kernel_rfl) rfl rfl (fun _ _ => Flow.kept_eqs _ _) ?_
                  refine Flow.pass_skip (fun a W hH => Flow.not_wanted 2 true 75 hH rfl rfl (by kernel_rfl) (by kernel_rfl) rfl rfl) ?_
                  refine Flow.pass_skip (fun a W hH => Flow.not_wanted 2 true 75 hH rfl rfl (by kernel_rfl) (by kernel_rfl) rfl rfl) ?_
                  refine Flow.pass_skip (fun a W hH => Flow.not_wanted 2 true 75 hH rfl rfl (by kernel_rfl) (by kernel_rfl) rfl rfl) ?_
                  refine Flow.pass_skip (fun a W hH => Flow.not_wanted 2 true 75 hH rfl rfl (by kernel_rfl) (by kernel_rfl) rfl rfl) ?_
                  refine Flow.pass_skip (fun a W hH => Flow.not_wanted 2 true 75 hH rfl rfl (by kernel_rfl) (by kernel_rfl) rfl rfl) ?_
                  refine Flow.pass_skip (fun a W hH => Flow.not_wanted 2 true 75 hH rfl rfl (by kernel_rfl) (by kernel_rfl) rfl rfl) ?_
                  refine Flow.pass_skip (fun a W hH => Flow.not_wanted 2 true 75 hH rfl rfl (by kernel_rfl) (by kernel_rfl) rfl rfl) ?_
                  refine Flow.pass_skip (fun a W hH => Flow.not_wanted 2 true 75 hH rfl rfl (by kernel_rfl) (by kernel_rfl) rfl rfl) ?_
                  refine Flow.pass_skip (fun a W hH => Flow.not_wanted 2 true 75 hH rfl rfl (by kernel_rfl) (by kernel_rfl) rfl rfl) ?_
                  refine Flow.pass_skip (fun a W hH => Flow.not_wanted 2 true 75 hH rfl rfl (by kernel_rfl) (by kernel_rfl) rfl rfl) ?_
                  refine Flow.pass_skip (fun a W hH => Flow.not_wanted 2 true 75 hH rfl rfl (by kernel_rfl) (by kernel_rfl) rfl rfl) ?_
                  refine Flow.pass_val (.bool false) (Flow.met_none rfl) (fun a W hH => ?_) ?_
                  · have e0 := Flow.see_new 75 2 hH.sees (by kernel_rfl) (by kernel_rfl) rfl rfl
                    have e1 := Flow.see_new 86 13 hH.sees (by kernel_rfl) (by kernel_rfl) rfl rfl
                    go_simp; first | done | rfl
                  refine Flow.pass_end [none, none, none, none, none, none, none, none, none, none, none, none, none, none, none, none, none, none, none, none, none, none, none, none, none, none, none, none, none, none, none, none, none, none, none, none, none, none, none, none, none, none, none, none, none, none, none, none, none, none, none, none, none, none, none, none, none, none, none, none, none, none, none, none, none, none, none, none, none, none, none, none, none, some 73, some 74, some 75, some 76, some 77, some 78, some 79, some 80, some 81, some 82, some 83, some 84, some 85, some 86, some 87, none, none, none, none, none, none, none, none, none, none, none, none, none, none, none, none, none, none, none, none, none, none, none, none, none, none, none, none, none, none, none, none, none, none, none, none, none, none, none, none, none, none, none, none, none, none] (by kernel_rfl) ?_
                  intro f gg w9 hB hfa hT hfg
                  have h87 : f 87 = _ := (hfg 87 14 (by kernel_rfl)).trans (hT 14 _ (by kernel_rfl) rfl)
                  exact hQ1 f w9 ⟨by rw [h87, decide_eq_false hg, Bool.false_and], (Below.refl W3.heap.size W3).drew.trans hB⟩
              intro f Wt ⟨h87, hBWt⟩
              simp only [Reg.sel, h87]
              have hN_Wt := Blk.below hN_W3 hBWt (Blk.lt hN_W3)
              have hC_Wt := hC_W3.trans (Chg.of_ext hBWt)
              clear h87 hBWt
              cases hq : (decide (0 < aa) && !ltN d1[aa - 1]! d1[p]!) with
              | true =>
                have hq2 : 0 < aa ∧ ltN d1[aa - 1]! d1[p]! = false := by simpa using hq
                obtain ⟨z1, z2, z3⟩ := hI_d1.out.eq hq2.1 hp.1 hp.2 hq2.2
                have hcall := partitionEqual_walk g R d1 n cap aa bb p hI_d1.out.size hp.1 hp.2 hbn hn5 Wt hN_Wt
                generalize Sort.partitionEqual ltN d1 aa bb p = r at *
                obtain ⟨mid, d5⟩ := r
                have z1 : aa < mid := z1
                have z2 : mid ≤ bb := z2
                have z3 : PI mid bb n d5 G := z3
                have z3 := Lib.hid z3
                clear hq hq2
                go_wp2_with fail
                refine Calls.mono hcall ?_
                rintro e W7 ⟨rfl, hN7, hC7⟩
                clear hcall
                go_wp2
                go_roundw
                case rel => first | exact ⟨mid, bb, l, true, false, d5, rfl, rfl, rfl, rfl, rfl, by omega, z2, hbn, by omega, hl, z3, hN7, hC_Wt.trans hC7⟩ | ((repeat apply Exists.intro); refine ⟨?_, rfl⟩; exact ⟨mid, bb, l, true, false, d5, rfl, rfl, rfl, rfl, rfl, by omega, z2, hbn, by omega, hl, z3, hN7, hC_Wt.trans hC7⟩)
                case measure => first | (simp [intOf]; done) | (simp [intOf]; omega) | (simp only [intOf]; omega)
              | false =>
                obtain ⟨z1, z2, z3, z4, z5, z6, z7⟩ := hI_d1.out.part hp.1 hp.2
                have hcall := partition_walk g R d1 n cap aa bb p hI_d1.out.size hp.1 hp.2 hbn hn5 Wt hN_Wt
                generalize Sort.partition ltN d1 aa bb p = r at *
                obtain ⟨mid, ap, d5⟩ := r
                have z1 : aa ≤ mid := z1
                have z2 : mid < bb := z2
                have z3 : Sort.Below ltN aa mid d5 := z3
                have z4 : Sort.Below ltN (mid + 1) bb d5 := z4
                have z5 : d5.size = n := z5
                have z6 : ∀ L, Sort.PermIn aa mid d5 L → Sort.SortedIn ltN aa mid L → PI (mid + 1) bb n L G := z6
                have z7 : ∀ L, Sort.PermIn (mid + 1) bb d5 L → Sort.SortedIn ltN (mid + 1) bb L → PI aa mid n L G := z7
                have z6 := Lib.hid z6
                have z7 := Lib.hid z7
                have z3 := Lib.hid z3
                have z4 := Lib.hid z4
                clear hq
                go_wp2_with fail
                refine Calls.mono hcall ?_
                rintro e W7 ⟨rfl, hN7, hC7⟩
                have hC_W7 := hC_Wt.trans hC7
                have q1 : IntKind.i64.wrap ((mid : Int) - (aa : Int)) = (mid : Int) - (aa : Int) := IntWalk.i64_in _ (by omega)
                have q2 : IntKind.i64.wrap ((bb : Int) - (mid : Int)) = (bb : Int) - (mid : Int) := IntWalk.i64_in _ (by omega)
                have q3 : IntKind.i64.wrap ((mid : Int) + 1) = ((mid + 1 : Nat) : Int) := by rw [IntWalk.i64_in _ (by omega)]; omega
                clear hcall hC7 hC_Wt
                by_cases hlr : mid - aa < bb - mid
                · have hlri : (mid : Int) - (aa : Int) < (bb : Int) - (mid : Int) := by omega
                  have hrec := ih (mid - aa) (by omega) d5 aa mid l W7 rfl z5 z1 (by omega) hl z3.out hN7
                  go_wp2_with fail
                  refine Calls.mono hrec ?_
                  rintro e W8 ⟨rfl, d6, ⟨hp6, hs6⟩, hN8, hC8⟩
                  have hI6 := Lib.hid (z6.out d6 hp6 hs6)
                  clear hrec hp6 hs6
                  go_wp2
                  go_roundw
                  case rel => first | exact ⟨mid + 1, bb, l, _, ap, d6, by go_num, rfl, rfl, rfl, rfl, by omega, by omega, hbn, by omega, hl, hI6, hN8, hC_W7.trans hC8⟩ | ((repeat apply Exists.intro); refine ⟨?_, rfl⟩; exact ⟨mid + 1, bb, l, _, ap, d6, by go_num, rfl, rfl, rfl, rfl, by omega, by omega, hbn, by omega, hl, hI6, hN8, hC_W7.trans hC8⟩)
                  case measure => first | (simp [intOf]; done) | (simp [intOf]; omega) | (simp only [intOf]; omega)
                · have hlri : ¬ (mid : Int) - (aa : Int) < (bb : Int) - (mid : Int) := by omega
                  have hrec := ih (bb - (mid + 1)) (by omega) d5 (mid + 1) bb l W7 rfl z5 (by omega) hbn hl z4.out hN7
                  go_wp2_with fail
                  refine Calls.mono hrec ?_
                  rintro e W8 ⟨rfl, d6, ⟨hp6, hs6⟩, hN8, hC8⟩
                  have hI6 := Lib.hid (z7.out d6 hp6 hs6)
                  clear hrec hp6 hs6
                  go_wp2
                  go_roundw
                  case rel => first | exact ⟨aa, mid, l, _, ap, d6, rfl, rfl, rfl, rfl, rfl, hla, z1, by omega, by omega, hl, hI6, hN8, hC_W7.trans hC8⟩ | ((repeat apply Exists.intro); refine ⟨?_, rfl⟩; exact ⟨aa, mid, l, _, ap, d6, rfl, rfl, rfl, rfl, rfl, hla, z1, by omega, by omega, hl, hI6, hN8, hC_W7.trans hC8⟩)
                  case measure => first | (simp [intOf]; done) | (simp [intOf]; omega) | (simp only [intOf]; omega)
            · skip
              have hcall := reverseRange_walk g R d1 n cap aa bb hI_d1.out.size (by omega) hbn hn5 W3 hN_W3
              obtain ⟨p2, hp2e⟩ : ∃ q, bb - 1 - (p - aa) = q := ⟨_, rfl⟩
              have hp2 : aa ≤ p2 ∧ p2 < bb := by omega
              have u1 : IntKind.i64.wrap ((bb : Int) - 1) = (bb : Int) - 1 := IntWalk.i64_in _ (by omega)
              have u2 : IntKind.i64.wrap ((p : Int) - (aa : Int)) = (p : Int) - (aa : Int) := IntWalk.i64_in _ (by omega)
              have u3 : IntKind.i64.wrap ((bb : Int) - 1 - ((p : Int) - (aa : Int))) = (p2 : Int) := by rw [IntWalk.i64_in _ (by omega)]; omega
              clear hp2e
              go_wp2_with fail
              refine Calls.mono hcall ?_
              rintro e W5 ⟨rfl, d3, hpm, hN_W5, hC5⟩
              have hC_W5 := hC_W3.trans hC5
              have hI_d3 := Lib.hid (hI_d1.out.perm hpm)
              clear hcall hC5 hpm hN_W3 hC_W3
              go_wp2_with fail
              have hs_d3 : d3.size = n := hI_d3.out.size
              refine s_cut [none, none, none, none, none, none, none, none, none, none, none, none, none, none, none, none, none, none, none, none, none, none, none, none, none, none, none, none, none, none, none, none, none, none, none, none, none, none, none, none, none, none, none, none, none, none, none, none, none, none, none, none, none, none, none, none, none, none, none, none, none, none, none, none, none, none, none, none, none, none, none, none, none, some 73, some 74, some 75, some 76, some 77, some 78, some 79, some 80, some 81, some 82, some 83, some 84, some 85, some 86, some 87, none, none, none, none, none, none, none, none, none, none, none, none, none, none, none, none, none, none, none, none, none, none, none, none, none, none, none, none, none, none, none, none, none, none, none, none, none, none, none, none, none, none, none, none, none, none] (fun f W => f 87 = .bool (decide (0 < aa) && !ltN d3[aa - 1]! d3[p2]!) ∧ Below W5.heap.size W5 W) (fun Q1 hQ1 => ?_) ?_
              · by_cases hg : 0 < aa
                · skip
                  refine Flow.wp_region_flow (W5.heap.size) [] [] (by kernel_rfl) (by kernel_rfl) (Nat.le_refl _) (fun _ h => by cases h) Flow.facts_nil ?_
                  refine Flow.pass_old (X := .int .i64 ((aa : Int))) 1 (Flow.met_none rfl) (.inl rfl) (by kernel_rfl) (by kernel_rfl) rfl ?_
                  refine Flow.pass_val (.bool true) (Flow.met_none rfl) (fun a W hH => ?_) ?_
                  · have e0 := Flow.see_new 73 0 hH.sees (by kernel_rfl) (by kernel_rfl) rfl rfl
                    go_simp; first | done | rfl | omega | (simp; done) | (simp; omega) | exact decide_eq_true (by omega) | exact decide_eq_false (by omega)
                  refine Flow.pass_copy 74 1 (Flow.met_none rfl) (.inl rfl) (by kernel_rfl) (by kernel_rfl) rfl rfl (fun _ _ => Flow.kept_eqs _ _) ?_
                  refine Flow.pass_old (X := .slice (some ⟨g, 0, none⟩) n cap) 0 (Flow.met_some 2 true 75 rfl rfl (by kernel_rfl) (by kernel_rfl) rfl rfl) (.inl rfl) (by kernel_rfl) (by kernel_rfl) rfl ?_
                  refine Flow.pass_old (X := .int .i64 ((aa : Int))) 1 (Flow.met_some 2 true 75 rfl rfl (by kernel_rfl) (by kernel_rfl) rfl rfl) (.inl rfl) (by kernel_rfl) (by kernel_rfl) rfl ?_
                  refine Flow.pass_val (.int .i64 ((aa : Int) - 1)) (Flow.met_some 2 true 75 rfl rfl (by kernel_rfl) (by kernel_rfl) rfl rfl) (fun a W hH => ?_) ?_
                  · have e0 := Flow.see_new 77 4 hH.sees (by kernel_rfl) (by kernel_rfl) rfl rfl
                    go_simp; first | done | rfl | (rw [IntWalk.i64_in _ (by omega)]; first | done | rfl | omega | (simp; done))
                  refine Flow.pass_val (.pointer (some ⟨g, (aa - 1), none⟩)) (Flow.met_some 2 true 75 rfl rfl (by kernel_rfl) (by kernel_rfl) rfl rfl) (fun a W hH => ?_) ?_
                  · have e0 := Flow.see_new 76 3 hH.sees (by kernel_rfl) (by kernel_rfl) rfl rfl
                    have e1 := Flow.see_new 78 5 hH.sees (by kernel_rfl) (by kernel_rfl) rfl rfl
                    exact s_ixS (s := 1) ((aa - 1)) _ rfl Tryz.underlying74 (by kernel_rfl) (by first | exact e0 | simpa [Act.eval] using e0 | (simp [Act.eval])) (by first | exact e1 | simpa [Act.eval] using e1 | (simp [Act.eval])) (by omega) (by omega) (by omega)
                  refine Flow.pass_val (.int .u64 ((d3[(aa - 1)]! : Nat) : Int)) (Flow.met_some 2 true 75 rfl rfl (by kernel_rfl) (by kernel_rfl) rfl rfl) (fun a W hH => ?_) ?_
                  · have e0 := Flow.see_new 79 6 hH.sees (by kernel_rfl) (by kernel_rfl) rfl rfl
                    have cc := nr_cell (hN_W5.below ((Below.refl W5.heap.size W5).drew.trans hH.below) hN_W5.lt) ((aa - 1)) (by omega); go_simp; first | done | rfl
                  refine Flow.pass_old (X := .slice (some ⟨g, 0, none⟩) n cap) 0 (Flow.met_some 2 true 75 rfl rfl (by kernel_rfl) (by kernel_rfl) rfl rfl) (.inl rfl) (by kernel_rfl) (by kernel_rfl) rfl ?_
                  refine Flow.pass_old (X := .int .i64 ((p2 : Int))) 11 (Flow.met_some 2 true 75 rfl rfl (by kernel_rfl) (by kernel_rfl) rfl rfl) (.inl rfl) (by kernel_rfl) (by kernel_rfl) rfl ?_
                  refine Flow.pass_val (.pointer (some ⟨g, p2, none⟩)) (Flow.met_some 2 true 75 rfl rfl (by kernel_rfl) (by kernel_rfl) rfl rfl) (fun a W hH => ?_) ?_
                  · have e0 := Flow.see_new 81 8 hH.sees (by kernel_rfl) (by kernel_rfl) rfl rfl
                    have e1 := Flow.see_new 82 9 hH.sees (by kernel_rfl) (by kernel_rfl) rfl rfl
                    exact s_ixS (s := 1) (p2) _ rfl Tryz.underlying74 (by kernel_rfl) (by first | exact e0 | simpa [Act.eval] using e0 | (simp [Act.eval])) (by first | exact e1 | simpa [Act.eval] using e1 | (simp [Act.eval])) (by omega) (by omega) (by omega)
                  refine Flow.pass_val (.int .u64 ((d3[p2]! : Nat) : Int)) (Flow.met_some 2 true 75 rfl rfl (by kernel_rfl) (by kernel_rfl) rfl rfl) (fun a W hH => ?_) ?_
                  · have e0 := Flow.see_new 83 10 hH.sees (by kernel_rfl) (by kernel_rfl) rfl rfl
                    have cc := nr_cell (hN_W5.below ((Below.refl W5.heap.size W5).drew.trans hH.below) hN_W5.lt) (p2) (by omega); go_simp; first | done | rfl
                  refine Flow.pass_step (Reg.eqs (.bool (ltN (d3[(aa - 1)]!) (d3[p2]!)))) (fun _ _ => Flow.kept_eqs _ _) (Flow.met_some 2 true 75 rfl rfl (by kernel_rfl) (by kernel_rfl) rfl rfl) (fun a W hH => ?_) ?_
                  · have e0 := Flow.see_new 80 7 hH.sees (by kernel_rfl) (by kernel_rfl) rfl rfl
                    have e1 := Flow.see_new 84 11 hH.sees (by kernel_rfl) (by kernel_rfl) rfl rfl
                    refine Reg.wp_call rfl Tryz.func162 rfl (by kernel_rfl) (by simp [Act.eval, e0, e1]) (lessN (d3[(aa - 1)]!) (d3[p2]!) W) ?_
                    rintro e w' ⟨rfl, rfl⟩
                    exact ⟨_, rfl, _, rfl, Ext.refl _, rfl⟩
                  refine Flow.pass_val (.bool (!(ltN (d3[(aa - 1)]!) (d3[p2]!)))) (Flow.met_some 2 true 75 rfl rfl (by kernel_rfl) (by kernel_rfl) rfl rfl) (fun a W hH => ?_) ?_
                  · have e0 := Flow.see_new 85 12 hH.sees (by kernel_rfl) (by kernel_rfl) rfl rfl
                    go_simp; first | done | rfl
                  refine Flow.pass_val (.bool (!(ltN (d3[(aa - 1)]!) (d3[p2]!)))) (Flow.met_none rfl) (fun a W hH => ?_) ?_
                  · have e0 := Flow.see_new 75 2 hH.sees (by kernel_rfl) (by kernel_rfl) rfl rfl
                    have e1 := Flow.see_new 86 13 hH.sees (by kernel_rfl) (by kernel_rfl) rfl rfl
                    go_simp; first | done | rfl
                  refine Flow.pass_end [none, none, none, none, none, none, none, none, none, none, none, none, none, none, none, none, none, none, none, none, none, none, none, none, none, none, none, none, none, none, none, none, none, none, none, none, none, none, none, none, none, none, none, none, none, none, none, none, none, none, none, none, none, none, none, none, none, none, none, none, none, none, none, none, none, none, none, none, none, none, none, none, none, some 73, some 74, some 75, some 76, some 77, some 78, some 79, some 80, some 81, some 82, some 83, some 84, some 85, some 86, some 87, none, none, none, none, none, none, none, none, none, none, none, none, none, none, none, none, none, none, none, none, none, none, none, none, none, none, none, none, none, none, none, none, none, none, none, none, none, none, none, none, none, none, none, none, none, none] (by kernel_rfl) ?_
                  intro f gg w9 hB hfa hT hfg
                  have h87 : f 87 = _ := (hfg 87 14 (by kernel_rfl)).trans (hT 14 _ (by kernel_rfl) rfl)
                  exact hQ1 f w9 ⟨by rw [h87, decide_eq_true hg, Bool.true_and], (Below.refl W5.heap.size W5).drew.trans hB⟩
                · skip
                  refine Flow.wp_region_flow (W5.heap.size) [] [] (by kernel_rfl) (by kernel_rfl) (Nat.le_refl _) (fun _ h => by cases h) Flow.facts_nil ?_
                  refine Flow.pass_old (X := .int .i64 ((aa : Int))) 1 (Flow.met_none rfl) (.inl rfl) (by kernel_rfl) (by kernel_rfl) rfl ?_
                  refine Flow.pass_val (.bool false) (Flow.met_none rfl) (fun a W hH => ?_) ?_
                  · have e0 := Flow.see_new 73 0 hH.sees (by kernel_rfl) (by kernel_rfl) rfl rfl
                    go_simp; first | done | rfl | omega | (simp; done) | (simp; omega) | exact decide_eq_true (by omega) | exact decide_eq_false (by omega)
                  refine Flow.pass_copy 74 1 (Flow.met_none rfl) (.inl rfl) (by kernel_rfl) (by kernel_rfl) rfl rfl (fun _ _ => Flow.kept_eqs _ _) ?_
                  refine Flow.pass_skip (fun a W hH => Flow.not_wanted 2 true 75 hH rfl rfl (by kernel_rfl) (by kernel_rfl) rfl rfl) ?_
                  refine Flow.pass_skip (fun a W hH => Flow.not_wanted 2 true 75 hH rfl rfl (by kernel_rfl) (by kernel_rfl) rfl rfl) ?_
                  refine Flow.pass_skip (fun a W hH => Flow.not_wanted 2 true 75 hH rfl rfl (by kernel_rfl) (by kernel_rfl) rfl rfl) ?_
                  refine Flow.pass_skip (fun a W hH => Flow.not_wanted 2 true 75 hH rfl rfl (by kernel_rfl) (by kernel_rfl) rfl rfl) ?_
                  refine Flow.pass_skip (fun a W hH => Flow.not_wanted 2 true 75 hH rfl rfl (by kernel_rfl) (by kernel_rfl) rfl rfl) ?_
                  refine Flow.pass_skip (fun a W hH => Flow.not_wanted 2 true 75 hH rfl rfl (by kernel_rfl) (by kernel_rfl) rfl rfl) ?_
                  refine Flow.pass_skip (fun a W hH => Flow.not_wanted 2 true 75 hH rfl rfl (by kernel_rfl) (by kernel_rfl) rfl rfl) ?_
                  refine Flow.pass_skip (fun a W hH => Flow.not_wanted 2 true 75 hH rfl rfl (by kernel_rfl) (by kernel_rfl) rfl rfl) ?_
                  refine Flow.pass_skip (fun a W hH => Flow.not_wanted 2 true 75 hH rfl rfl (by kernel_rfl) (by kernel_rfl) rfl rfl) ?_
                  refine Flow.pass_skip (fun a W hH => Flow.not_wanted 2 true 75 hH rfl rfl (by kernel_rfl) (by kernel_rfl) rfl rfl) ?_
                  refine Flow.pass_skip (fun a W hH => Flow.not_wanted 2 true 75 hH rfl rfl (by kernel_rfl) (by kernel_rfl) rfl rfl) ?_
                  refine Flow.pass_val (.bool false) (Flow.met_none rfl) (fun a W hH => ?_) ?_
                  · have e0 := Flow.see_new 75 2 hH.sees (by kernel_rfl) (by kernel_rfl) rfl rfl
                    have e1 := Flow.see_new 86 13 hH.sees (by kernel_rfl) (by kernel_rfl) rfl rfl
                    go_simp; first | done | rfl
                  refine Flow.pass_end [none, none, none, none, none, none, none, none, none, none, none, none, none, none, none, none, none, none, none, none, none, none, none, none, none, none, none, none, none, none, none, none, none, none, none, none, none, none, none, none, none, none, none, none, none, none, none, none, none, none, none, none, none, none, none, none, none, none, none, none, none, none, none, none, none, none, none, none, none, none, none, none, none, some 73, some 74, some 75, some 76, some 77, some 78, some 79, some 80, some 81, some 82, some 83, some 84, some 85, some 86, some 87, none, none, none, none, none, none, none, none, none, none, none, none, none, none, none, none, none, none, none, none, none, none, none, none, none, none, none, none, none, none, none, none, none, none, none, none, none, none, none, none, none, none, none, none, none, none] (by kernel_rfl) ?_
                  intro f gg w9 hB hfa hT hfg
                  have h87 : f 87 = _ := (hfg 87 14 (by kernel_rfl)).trans (hT 14 _ (by kernel_rfl) rfl)
                  exact hQ1 f w9 ⟨by rw [h87, decide_eq_false hg, Bool.false_and], (Below.refl W5.heap.size W5).drew.trans hB⟩
              intro f Wt ⟨h87, hBWt⟩
              simp only [Reg.sel, h87]
              have hN_Wt := Blk.below hN_W5 hBWt (Blk.lt hN_W5)
              have hC_Wt := hC_W5.trans (Chg.of_ext hBWt)
              clear h87 hBWt
              cases hq : (decide (0 < aa) && !ltN d3[aa - 1]! d3[p2]!) with
              | true =>
                have hq2 : 0 < aa ∧ ltN d3[aa - 1]! d3[p2]! = false := by simpa using hq
                obtain ⟨z1, z2, z3⟩ := hI_d3.out.eq hq2.1 hp2.1 hp2.2 hq2.2
                have hcall := partitionEqual_walk g R d3 n cap aa bb p2 hI_d3.out.size hp2.1 hp2.2 hbn hn5 Wt hN_Wt
                generalize Sort.partitionEqual ltN d3 aa bb p2 = r at *
                obtain ⟨mid, d5⟩ := r
                have z1 : aa < mid := z1
                have z2 : mid ≤ bb := z2
                have z3 : PI mid bb n d5 G := z3
                have z3 := Lib.hid z3
                clear hq hq2
                go_wp2_with fail
                refine Calls.mono hcall ?_
                rintro e W7 ⟨rfl, hN7, hC7⟩
                clear hcall
                go_wp2
                go_roundw
                case rel => first | exact ⟨mid, bb, l, true, false, d5, rfl, rfl, rfl, rfl, rfl, by omega, z2, hbn, by omega, hl, z3, hN7, hC_Wt.trans hC7⟩ | ((repeat apply Exists.intro); refine ⟨?_, rfl⟩; exact ⟨mid, bb, l, true, false, d5, rfl, rfl, rfl, rfl, rfl, by omega, z2, hbn, by omega, hl, z3, hN7, hC_Wt.trans hC7⟩)
                case measure => first | (simp [intOf]; done) | (simp [intOf]; omega) | (simp only [intOf]; omega)
              | false =>
                obtain ⟨z1, z2, z3, z4, z5, z6, z7⟩ := hI_d3.out.part hp2.1 hp2.2
                have hcall := partition_walk g R d3 n cap aa bb p2 hI_d3.out.size hp2.1 hp2.2 hbn hn5 Wt hN_Wt
                generalize Sort.partition ltN d3 aa bb p2 = r at *
                obtain ⟨mid, ap, d5⟩ := r
                have z1 : aa ≤ mid := z1
                have z2 : mid < bb := z2
                have z3 : Sort.Below ltN aa mid d5 := z3
                have z4 : Sort.Below ltN (mid + 1) bb d5 := z4
                have z5 : d5.size = n := z5
                have z6 : ∀ L, Sort.PermIn aa mid d5 L → Sort.SortedIn ltN aa mid L → PI (mid + 1) bb n L G := z6
                have z7 : ∀ L, Sort.PermIn (mid + 1) bb d5 L → Sort.SortedIn ltN (mid + 1) bb L → PI aa mid n L G := z7
                have z6 := Lib.hid z6
                have z7 := Lib.hid z7
                have z3 := Lib.hid z3
                have z4 := Lib.hid z4
                clear hq
                go_wp2_with fail
                refine Calls.mono hcall ?_
                rintro e W7 ⟨rfl, hN7, hC7⟩
                have hC_W7 := hC_Wt.trans hC7
                have q1 : IntKind.i64.wrap ((mid : Int) - (aa : Int)) = (mid : Int) - (aa : Int) := IntWalk.i64_in _ (by omega)
                have q2 : IntKind.i64.wrap ((bb : Int) - (mid : Int)) = (bb : Int) - (mid : Int) := IntWalk.i64_in _ (by omega)
                have q3 : IntKind.i64.wrap ((mid : Int) + 1) = ((mid + 1 : Nat) : Int) := by rw [IntWalk.i64_in _ (by omega)]; omega
                clear hcall hC7 hC_Wt
                by_cases hlr : mid - aa < bb - mid
                · have hlri : (mid : Int) - (aa : Int) < (bb : Int) - (mid : Int) := by omega
                  have hrec := ih (mid - aa) (by omega) d5 aa mid l W7 rfl z5 z1 (by omega) hl z3.out hN7
                  go_wp2_with fail
                  refine Calls.mono hrec ?_
                  rintro e W8 ⟨rfl, d6, ⟨hp6, hs6⟩, hN8, hC8⟩
                  have hI6 := Lib.hid (z6.out d6 hp6 hs6)
                  clear hrec hp6 hs6
                  go_wp2
                  go_roundw
                  case rel => first | exact ⟨mid + 1, bb, l, _, ap, d6, by go_num, rfl, rfl, rfl, rfl, by omega, by omega, hbn, by omega, hl, hI6, hN8, hC_W7.trans hC8⟩ | ((repeat apply Exists.intro); refine ⟨?_, rfl⟩; exact ⟨mid + 1, bb, l, _, ap, d6, by go_num, rfl, rfl, rfl, rfl, by omega, by omega, hbn, by omega, hl, hI6, hN8, hC_W7.trans hC8⟩)
                  case measure => first | (simp [intOf]; done) | (simp [intOf]; omega) | (simp only [intOf]; omega)
                · have hlri : ¬ (mid : Int) - (aa : Int) < (bb : Int) - (mid : Int) := by omega
                  have hrec := ih (bb - (mid + 1)) (by omega) d5 (mid + 1) bb l W7 rfl z5 (by omega) hbn hl z4.out hN7
                  go_wp2_with fail
                  refine Calls.mono hrec ?_
                  rintro e W8 ⟨rfl, d6, ⟨hp6, hs6⟩, hN8, hC8⟩
                  have hI6 := Lib.hid (z7.out d6 hp6 hs6)
                  clear hrec hp6 hs6
                  go_wp2
                  go_roundw
                  case rel => first | exact ⟨aa, mid, l, _, ap, d6, rfl, rfl, rfl, rfl, rfl, hla, z1, by omega, by omega, hl, hI6, hN8, hC_W7.trans hC8⟩ | ((repeat apply Exists.intro); refine ⟨?_, rfl⟩; exact ⟨aa, mid, l, _, ap, d6, rfl, rfl, rfl, rfl, rfl, hla, z1, by omega, by omega, hl, hI6, hN8, hC_W7.trans hC8⟩)
                  case measure => first | (simp [intOf]; done) | (simp [intOf]; omega) | (simp only [intOf]; omega)
          | true =>
            have hcall := choosePivot_walk g R d1 n cap aa bb hI_d1.out.size (by omega) hbn hn5 wr hN_wr
            go_wp2_with fail
            refine Calls.mono hcall ?_
            rintro e W3 ⟨p, hint, hp, hh, rfl, hN_W3, hB3⟩
            have hC_W3 : Chg (OnlyG g) w W3 := hC_wr.trans (Chg.of_ext hB3)
            clear hcall hB3
            rcases hh with rfl | rfl | rfl
            · skip
              go_wp2_with fail
              have hs_d1 : d1.size = n := hI_d1.out.size
              refine s_cut [none, none, none, none, none, none, none, none, none, none, none, none, none, none, none, none, none, none, none, none, none, none, none, none, none, none, none, none, none, none, none, none, none, none, none, none, none, none, none, none, none, none, none, none, none, none, none, none, none, none, none, none, none, none, none, none, none, none, none, none, none, none, none, none, none, none, none, none, none, none, none, none, none, some 73, some 74, some 75, some 76, some 77, some 78, some 79, some 80, some 81, some 82, some 83, some 84, some 85, some 86, some 87, none, none, none, none, none, none, none, none, none, none, none, none, none, none, none, none, none, none, none, none, none, none, none, none, none, none, none, none, none, none, none, none, none, none, none, none, none, none, none, none, none, none, none, none, none, none] (fun f W => f 87 = .bool (decide (0 < aa) && !ltN d1[aa - 1]! d1[p]!) ∧ Below W3.heap.size W3 W) (fun Q1 hQ1 => ?_) ?_
              · by_cases hg : 0 < aa
                · skip
                  refine Flow.wp_region_flow (W3.heap.size) [] [] (by kernel_rfl) (by kernel_rfl) (Nat.le_refl _) (fun _ h => by cases h) Flow.facts_nil ?_
                  refine Flow.pass_old (X := .int .i64 ((aa : Int))) 1 (Flow.met_none rfl) (.inl rfl) (by kernel_rfl) (by kernel_rfl) rfl ?_
                  refine Flow.pass_val (.bool true) (Flow.met_none rfl) (fun a W hH => ?_) ?_
                  · have e0 := Flow.see_new 73 0 hH.sees (by kernel_rfl) (by kernel_rfl) rfl rfl
                    go_simp; first | done | rfl | omega | (simp; done) | (simp; omega) | exact decide_eq_true (by omega) | exact decide_eq_false (by omega)
                  refine Flow.pass_copy 74 1 (Flow.met_none rfl) (.inl rfl) (by kernel_rfl) (by kernel_rfl) rfl rfl (fun _ _ => Flow.kept_eqs _ _) ?_
                  refine Flow.pass_old (X := .slice (some ⟨g, 0, none⟩) n cap) 0 (Flow.met_some 2 true 75 rfl rfl (by kernel_rfl) (by kernel_rfl) rfl rfl) (.inl rfl) (by kernel_rfl) (by kernel_rfl) rfl ?_
                  refine Flow.pass_old (X := .int .i64 ((aa : Int))) 1 (Flow.met_some 2 true 75 rfl rfl (by kernel_rfl) (by kernel_rfl) rfl rfl) (.inl rfl) (by kernel_rfl) (by kernel_rfl) rfl ?_
                  refine Flow.pass_val (.int .i64 ((aa : Int) - 1)) (Flow.met_some 2 true 75 rfl rfl (by kernel_rfl) (by kernel_rfl) rfl rfl) (fun a W hH => ?_) ?_
                  · have e0 := Flow.see_new 77 4 hH.sees (by kernel_rfl) (by kernel_rfl) rfl rfl
                    go_simp; first | done | rfl | (rw [IntWalk.i64_in _ (by omega)]; first | done | rfl | omega | (simp; done))
                  refine Flow.pass_val (.pointer (some ⟨g, (aa - 1), none⟩)) (Flow.met_some 2 true 75 rfl rfl (by kernel_rfl) (by kernel_rfl) rfl rfl) (fun a W hH => ?_) ?_
                  · have e0 := Flow.see_new 76 3 hH.sees (by kernel_rfl) (by kernel_rfl) rfl rfl
                    have e1 := Flow.see_new 78 5 hH.sees (by kernel_rfl) (by kernel_rfl) rfl rfl
                    exact s_ixS (s := 1) ((aa - 1)) _ rfl Tryz.underlying74 (by kernel_rfl) (by first | exact e0 | simpa [Act.eval] using e0 | (simp [Act.eval])) (by first | exact e1 | simpa [Act.eval] using e1 | (simp [Act.eval])) (by omega) (by omega) (by omega)
                  refine Flow.pass_val (.int .u64 ((d1[(aa - 1)]! : Nat) : Int)) (Flow.met_some 2 true 75 rfl rfl (by kernel_rfl) (by kernel_rfl) rfl rfl) (fun a W hH => ?_) ?_
                  · have e0 := Flow.see_new 79 6 hH.sees (by kernel_rfl) (by kernel_rfl) rfl rfl
                    have cc := nr_cell (hN_W3.below ((Below.refl W3.heap.size W3).drew.trans hH.below) hN_W3.lt) ((aa - 1)) (by omega); go_simp; first | done | rfl
                  refine Flow.pass_old (X := .slice (some ⟨g, 0, none⟩) n cap) 0 (Flow.met_some 2 true 75 rfl rfl (by kernel_rfl) (by kernel_rfl) rfl rfl) (.inl rfl) (by kernel_rfl) (by kernel_rfl) rfl ?_
                  refine Flow.pass_old (X := .int .i64 ((p : Int))) 11 (Flow.met_some 2 true 75 rfl rfl (by kernel_rfl) (by kernel_rfl) rfl rfl) (.inl rfl) (by kernel_rfl) (by kernel_rfl) rfl ?_
                  refine Flow.pass_val (.pointer (some ⟨g, p, none⟩)) (Flow.met_some 2 true 75 rfl rfl (by kernel_rfl) (by kernel_rfl) rfl rfl) (fun a W hH => ?_) ?_
                  · have e0 := Flow.see_new 81 8 hH.sees (by kernel_rfl) (by kernel_rfl) rfl rfl
                    have e1 := Flow.see_new 82 9 hH.sees (by kernel_rfl) (by kernel_rfl) rfl rfl
                    exact s_ixS (s := 1) (p) _ rfl Tryz.underlying74 (by kernel_rfl) (by first | exact e0 | simpa [Act.eval] using e0 | (simp [Act.eval])) (by first | exact e1 | simpa [Act.eval] using e1 | (simp [Act.eval])) (by omega) (by omega) (by omega)
                  refine Flow.pass_val (.int .u64 ((d1[p]! : Nat) : Int)) (Flow.met_some 2 true 75 rfl rfl (by kernel_rfl) (by kernel_rfl) rfl rfl) (fun a W hH => ?_) ?_
                  · have e0 := Flow.see_new 83 10 hH.sees (by kernel_rfl) (by kernel_rfl) rfl rfl
                    have cc := nr_cell (hN_W3.below ((Below.refl W3.heap.size W3).drew.trans hH.below) hN_W3.lt) (p) (by omega); go_simp; first | done | rfl
                  refine Flow.pass_step (Reg.eqs (.bool (ltN (d1[(aa - 1)]!) (d1[p]!)))) (fun _ _ => Flow.kept_eqs _ _) (Flow.met_some 2 true 75 rfl rfl (by kernel_rfl) (by kernel_rfl) rfl rfl) (fun a W hH => ?_) ?_
                  · have e0 := Flow.see_new 80 7 hH.sees (by kernel_rfl) (by kernel_rfl) rfl rfl
                    have e1 := Flow.see_new 84 11 hH.sees (by kernel_rfl) (by kernel_rfl) rfl rfl
                    refine Reg.wp_call rfl Tryz.func162 rfl (by kernel_rfl) (by simp [Act.eval, e0, e1]) (lessN (d1[(aa - 1)]!) (d1[p]!) W) ?_
                    rintro e w' ⟨rfl, rfl⟩
                    exact ⟨_, rfl, _, rfl, Ext.refl _, rfl⟩
                  refine Flow.pass_val (.bool (!(ltN (d1[(aa - 1)]!) (d1[p]!)))) (Flow.met_some 2 true 75 rfl rfl (by kernel_rfl) (by kernel_rfl) rfl rfl) (fun a W hH => ?_) ?_
                  · have e0 := Flow.see_new 85 12 hH.sees (by kernel_rfl) (by kernel_rfl) rfl rfl
                    go_simp; first | done | rfl
                  refine Flow.pass_val (.bool (!(ltN (d1[(aa - 1)]!) (d1[p]!)))) (Flow.met_none rfl) (fun a W hH => ?_) ?_
                  · have e0 := Flow.see_new 75 2 hH.sees (by kernel_rfl) (by kernel_rfl) rfl rfl
                    have e1 := Flow.see_new 86 13 hH.sees (by kernel_rfl) (by kernel_rfl) rfl rfl
                    go_simp; first | done | rfl
                  refine Flow.pass_end [none, none, none, none, none, none, none, none, none, none, none, none, none, none, none, none, none, none, none, none, none, none, none, none, none, none, none, none, none, none, none, none, none, none, none, none, none, none, none, none, none, none, none, none, none, none, none, none, none, none, none, none, none, none, none, none, none, none, none, none, none, none, none, none, none, none, none, none, none, none, none, none, none, some 73, some 74, some 75, some 76, some 77, some 78, some 79, some 80, some 81, some 82, some 83, some 84, some 85, some 86, some 87, none, none, none, none, none, none, none, none, none, none, none, none, none, none, none, none, none, none, none, none, none, none, none, none, none, none, none, none, none, none, none, none, none, none, none, none, none, none, none, none, none, none, none, none, none, none] (by kernel_rfl) ?_
                  intro f gg w9 hB hfa hT hfg
                  have h87 : f 87 = _ := (hfg 87 14 (by kernel_rfl)).trans (hT 14 _ (by kernel_rfl) rfl)
                  exact hQ1 f w9 ⟨by rw [h87, decide_eq_true hg, Bool.true_and], (Below.refl W3.heap.size W3).drew.trans hB⟩
                · skip
                  refine Flow.wp_region_flow (W3.heap.size) [] [] (by kernel_rfl) (by kernel_rfl) (Nat.le_refl _) (fun _ h => by cases h) Flow.facts_nil ?_
                  refine Flow.pass_old (X := .int .i64 ((aa : Int))) 1 (Flow.met_none rfl) (.inl rfl) (by kernel_rfl) (by kernel_rfl) rfl ?_
                  refine Flow.pass_val (.bool false) (Flow.met_none rfl) (fun a W hH => ?_) ?_
                  · have e0 := Flow.see_new 73 0 hH.sees (by kernel_rfl) (by kernel_rfl) rfl rfl
                    go_simp; first | done | rfl | omega | (simp; done) | (simp; omega) | exact decide_eq_true (by omega) | exact decide_eq_false (by omega)
                  refine Flow.pass_copy 74 1 (Flow.met_none rfl) (.inl rfl) (by kernel_rfl) (by kernel_rfl) rfl rfl (fun _ _ => Flow.kept_eqs _ _) ?_
                  refine Flow.pass_skip (fun a W hH => Flow.not_wanted 2 true 75 hH rfl rfl (by kernel_rfl) (by kernel_rfl) rfl rfl) ?_
                  refine Flow.pass_skip (fun a W hH => Flow.not_wanted 2 true 75 hH rfl rfl (by kernel_rfl) (by kernel_rfl) rfl rfl) ?_
                  refine Flow.pass_skip (fun a W hH => Flow.not_wanted 2 true 75 hH rfl rfl (by kernel_rfl) (by kernel_rfl) rfl rfl) ?_
                  refine Flow.pass_skip (fun a W hH => Flow.not_wanted 2 true 75 hH rfl rfl (by kernel_rfl) (by kernel_rfl) rfl rfl) ?_
                  refine Flow.pass_skip (fun a W hH => Flow.not_wanted 2 true 75 hH rfl rfl (by kernel_rfl) (by kernel_rfl) rfl rfl) ?_
                  refine Flow.pass_skip (fun a W hH => Flow.not_wanted 2 true 75 hH rfl rfl (by kernel_rfl) (by kernel_rfl) rfl rfl) ?_
                  refine Flow.pass_skip (fun a W hH => Flow.not_wanted 2 true 75 hH rfl rfl (by kernel_rfl) (by kernel_rfl) rfl rfl) ?_
                  refine Flow.pass_skip (fun a W hH => Flow.not_wanted 2 true 75 hH rfl rfl (by kernel_rfl) (by kernel_rfl) rfl rfl) ?_
                  refine Flow.pass_skip (fun a W hH => Flow.not_wanted 2 true 75 hH rfl rfl (by kernel_rfl) (by kernel_rfl) rfl rfl) ?_
                  refine Flow.pass_skip (fun a W hH => Flow.not_wanted 2 true 75 hH rfl rfl (by kernel_rfl) (by kernel_rfl) rfl rfl) ?_
                  refine Flow.pass_skip (fun a W hH => Flow.not_wanted 2 true 75 hH rfl rfl (by kernel_rfl) (by kernel_rfl) rfl rfl) ?_
                  refine Flow.pass_val (.bool false) (Flow.met_none rfl) (fun a W hH => ?_) ?_
                  · have e0 := Flow.see_new 75 2 hH.sees (by kernel_rfl) (by kernel_rfl) rfl rfl
                    have e1 := Flow.see_new 86 13 hH.sees (by kernel_rfl) (by kernel_rfl) rfl rfl
                    go_simp; first | done | rfl
                  refine Flow.pass_end [none, none, none, none, none, none, none, none, none, none, none, none, none, none, none, none, none, none, none, none, none, none, none, none, none, none, none, none, none, none, none, none, none, none, none, none, none, none, none, none, none, none, none, none, none, none, none, none, none, none, none, none, none, none, none, none, none, none, none, none, none, none, none, none, none, none, none, none, none, none, none, none, none, some 73, some 74, some 75, some 76, some 77, some 78, some 79, some 80, some 81, some 82, some 83, some 84, some 85, some 86, some 87, none, none, none, none, none, none, none, none, none, none, none, none, none, none, none, none, none, none, none, none, none, none, none, none, none, none, none, none, none, none, none, none, none, none, none, none, none, none, none, none, none, none, none, none, none, none] (by kernel_rfl) ?_
                  intro f gg w9 hB hfa hT hfg
                  have h87 : f 87 = _ := (hfg 87 14 (by kernel_rfl)).trans (hT 14 _ (by kernel_rfl) rfl)
                  exact hQ1 f w9 ⟨by rw [h87, decide_eq_false hg, Bool.false_and], (Below.refl W3.heap.size W3).drew.trans hB⟩
              intro f Wt ⟨h87, hBWt⟩
              simp only [Reg.sel, h87]
              have hN_Wt := Blk.below hN_W3 hBWt (Blk.lt hN_W3)
              have hC_Wt := hC_W3.trans (Chg.of_ext hBWt)
              clear h87 hBWt
              cases hq : (decide (0 < aa) && !ltN d1[aa - 1]! d1[p]!) with
              | true =>
                have hq2 : 0 < aa ∧ ltN d1[aa - 1]! d1[p]! = false := by simpa using hq
                obtain ⟨z1, z2, z3⟩ := hI_d1.out.eq hq2.1 hp.1 hp.2 hq2.2
                have hcall := partitionEqual_walk g R d1 n cap aa bb p hI_d1.out.size hp.1 hp.2 hbn hn5 Wt hN_Wt
                generalize Sort.partitionEqual ltN d1 aa bb p = r at *
                obtain ⟨mid, d5⟩ := r
                have z1 : aa < mid := z1
                have z2 : mid ≤ bb := z2
                have z3 : PI mid bb n d5 G := z3
                have z3 := Lib.hid z3
                clear hq hq2
                go_wp2_with fail
                refine Calls.mono hcall ?_
                rintro e W7 ⟨rfl, hN7, hC7⟩
                clear hcall
                go_wp2
                go_roundw
                case rel => first | exact ⟨mid, bb, l, true, true, d5, rfl, rfl, rfl, rfl, rfl, by omega, z2, hbn, by omega, hl, z3, hN7, hC_Wt.trans hC7⟩ | ((repeat apply Exists.intro); refine ⟨?_, rfl⟩; exact ⟨mid, bb, l, true, true, d5, rfl, rfl, rfl, rfl, rfl, by omega, z2, hbn, by omega, hl, z3, hN7, hC_Wt.trans hC7⟩)
                case measure => first | (simp [intOf]; done) | (simp [intOf]; omega) | (simp only [intOf]; omega)
              | false =>
                obtain ⟨z1, z2, z3, z4, z5, z6, z7⟩ := hI_d1.out.part hp.1 hp.2
                have hcall := partition_walk g R d1 n cap aa bb p hI_d1.out.size hp.1 hp.2 hbn hn5 Wt hN_Wt
                generalize Sort.partition ltN d1 aa bb p = r at *
                obtain ⟨mid, ap, d5⟩ := r
                have z1 : aa ≤ mid := z1
                have z2 : mid < bb := z2
                have z3 : Sort.Below ltN aa mid d5 := z3
                have z4 : Sort.Below ltN (mid + 1) bb d5 := z4
                have z5 : d5.size = n := z5
                have z6 : ∀ L, Sort.PermIn aa mid d5 L → Sort.SortedIn ltN aa mid L → PI (mid + 1) bb n L G := z6
                have z7 : ∀ L, Sort.PermIn (mid + 1) bb d5 L → Sort.SortedIn ltN (mid + 1) bb L → PI aa mid n L G := z7
                have z6 := Lib.hid z6
                have z7 := Lib.hid z7
                have z3 := Lib.hid z3
                have z4 := Lib.hid z4
                clear hq
                go_wp2_with fail
                refine Calls.mono hcall ?_
                rintro e W7 ⟨rfl, hN7, hC7⟩
                have hC_W7 := hC_Wt.trans hC7
                have q1 : IntKind.i64.wrap ((mid : Int) - (aa : Int)) = (mid : Int) - (aa : Int) := IntWalk.i64_in _ (by omega)
                have q2 : IntKind.i64.wrap ((bb : Int) - (mid : Int)) = (bb : Int) - (mid : Int) := IntWalk.i64_in _ (by omega)
                have q3 : IntKind.i64.wrap ((mid : Int) + 1) = ((mid + 1 : Nat) : Int) := by rw [IntWalk.i64_in _ (by omega)]; omega
                clear hcall hC7 hC_Wt
                by_cases hlr : mid - aa < bb - mid
                · have hlri : (mid : Int) - (aa : Int) < (bb : Int) - (mid : Int) := by omega
                  have hrec := ih (mid - aa) (by omega) d5 aa mid l W7 rfl z5 z1 (by omega) hl z3.out hN7
                  go_wp2_with fail
                  refine Calls.mono hrec ?_
                  rintro e W8 ⟨rfl, d6, ⟨hp6, hs6⟩, hN8, hC8⟩
                  have hI6 := Lib.hid (z6.out d6 hp6 hs6)
                  clear hrec hp6 hs6
                  go_wp2
                  go_roundw
                  case rel => first | exact ⟨mid + 1, bb, l, _, ap, d6, by go_num, rfl, rfl, rfl, rfl, by omega, by omega, hbn, by omega, hl, hI6, hN8, hC_W7.trans hC8⟩ | ((repeat apply Exists.intro); refine ⟨?_, rfl⟩; exact ⟨mid + 1, bb, l, _, ap, d6, by go_num, rfl, rfl, rfl, rfl, by omega, by omega, hbn, by omega, hl, hI6, hN8, hC_W7.trans hC8⟩)
                  case measure => first | (simp [intOf]; done) | (simp [intOf]; omega) | (simp only [intOf]; omega)
                · have hlri : ¬ (mid : Int) - (aa : Int) < (bb : Int) - (mid : Int) := by omega
                  have hrec := ih (bb - (mid + 1)) (by omega) d5 (mid + 1) bb l W7 rfl z5 (by omega) hbn hl z4.out hN7
                  go_wp2_with fail
                  refine Calls.mono hrec ?_
                  rintro e W8 ⟨rfl, d6, ⟨hp6, hs6⟩, hN8, hC8⟩
                  have hI6 := Lib.hid (z7.out d6 hp6 hs6)
                  clear hrec hp6 hs6
                  go_wp2
                  go_roundw
                  case rel => first | exact ⟨aa, mid, l, _, ap, d6, rfl, rfl, rfl, rfl, rfl, hla, z1, by omega, by omega, hl, hI6, hN8, hC_W7.trans hC8⟩ | ((repeat apply Exists.intro); refine ⟨?_, rfl⟩; exact ⟨aa, mid, l, _, ap, d6, rfl, rfl, rfl, rfl, rfl, hla, z1, by omega, by omega, hl, hI6, hN8, hC_W7.trans hC8⟩)
                  case measure => first | (simp [intOf]; done) | (simp [intOf]; omega) | (simp only [intOf]; omega)
            · skip
              have hcall := partialIns_walk g R d1 n cap aa bb hI_d1.out.size (by omega) hbn hn5 W3 hN_W3
              obtain ⟨z1, z2⟩ := Sort.partialInsertionSort_holds (lt := ltN) swoN d1 aa bb (by omega) (by rw [hI_d1.out.size]; exact hbn) hI_d1.out.below
              have z2 := fun h => hI_d1.out.fin _ z1 (z2 h)
              have z1 := Lib.hid (hI_d1.out.perm z1)
              have z2 := Lib.hid z2
              generalize Sort.partialInsertionSort ltN d1 aa bb = r at *
              obtain ⟨d4, ok⟩ := r
              go_wp2_with fail
              refine Calls.mono hcall ?_
              rintro e W6 ⟨rfl, hN_W6, hC6⟩
              have hC_W6 := hC_W3.trans hC6
              have hI_d4 : Hid (PI aa bb n d4 G) := z1
              clear hcall hC6 z1
              cases ok with
              | true =>
                go_wp2
                refine bodyPost_ret (results_none rfl _ _ _) rfl ?_
                exact ⟨rfl, d4, HG.out _ (z2.out (by first | rfl | trivial)), hN_W6, hC_W6⟩
              | false =>
                clear z2
                go_wp2_with fail
                have hs_d4 : d4.size = n := hI_d4.out.size
                refine s_cut [none, none, none, none, none, none, none, none, none, none, none, none, none, none, none, none, none, none, none, none, none, none, none, none, none, none, none, none, none, none, none, none, none, none, none, none, none, none, none, none, none, none, none, none, none, none, none, none, none, none, none, none, none, none, none, none, none, none, none, none, none, none, none, none, none, none, none, none, none, none, none, none, none, some 73, some 74, some 75, some 76, some 77, some 78, some 79, some 80, some 81, some 82, some 83, some 84, some 85, some 86, some 87, none, none, none, none, none, none, none, none, none, none, none, none, none, none, none, none, none, none, none, none, none, none, none, none, none, none, none, none, none, none, none, none, none, none, none, none, none, none, none, none, none, none, none, none, none, none] (fun f W => f 87 = .bool (decide (0 < aa) && !ltN d4[aa - 1]! d4[p]!) ∧ Below W6.heap.size W6 W) (fun Q1 hQ1 => ?_) ?_
                · by_cases hg : 0 < aa
                  · skip
                    refine Flow.wp_region_flow (W6.heap.size) [] [] (by kernel_rfl) (by kernel_rfl) (Nat.le_refl _) (fun _ h => by cases h) Flow.facts_nil ?_
                    refine Flow.pass_old (X := .int .i64 ((aa : Int))) 1 (Flow.met_none rfl) (.inl rfl) (by kernel_rfl) (by kernel_rfl) rfl ?_
                    refine Flow.pass_val (.bool true) (Flow.met_none rfl) (fun a W hH => ?_) ?_
                    · have e0 := Flow.see_new 73 0 hH.sees (by kernel_rfl) (by kernel_rfl) rfl rfl
                      go_simp; first | done | rfl | omega | (simp; done) | (simp; omega) | exact decide_eq_true (by omega) | exact decide_eq_false (by omega)
                    refine Flow.pass_copy 74 1 (Flow.met_none rfl) (.inl rfl) (by kernel_rfl) (by kernel_rfl) rfl rfl (fun _ _ => Flow.kept_eqs _ _) ?_
                    refine Flow.pass_old (X := .slice (some ⟨g, 0, none⟩) n cap) 0 (Flow.met_some 2 true 75 rfl rfl (by kernel_rfl) (by kernel_rfl) rfl rfl) (.inl rfl) (by kernel_rfl) (by kernel_rfl) rfl ?_
                    refine Flow.pass_old (X := .int .i64 ((aa : Int))) 1 (Flow.met_some 2 true 75 rfl rfl (by kernel_rfl) (by kernel_rfl) rfl rfl) (.inl rfl) (by kernel_rfl) (by kernel_rfl) rfl ?_
                    refine Flow.pass_val (.int .i64 ((aa : Int) - 1)) (Flow.met_some 2 true 75 rfl rfl (by kernel_rfl) (by kernel_rfl) rfl rfl) (fun a W hH => ?_) ?_
                    · have e0 := Flow.see_new 77 4 hH.sees (by kernel_rfl) (by kernel_rfl) rfl rfl
                      go_simp; first | done | rfl | (rw [IntWalk.i64_in _ (by omega)]; first | done | rfl | omega | (simp; done))
                    refine Flow.pass_val (.pointer (some ⟨g, (aa - 1), none⟩)) (Flow.met_some 2 true 75 rfl rfl (by kernel_rfl) (by kernel_rfl) rfl rfl) (fun a W hH => ?_) ?_
                    · have e0 := Flow.see_new 76 3 hH.sees (by kernel_rfl) (by kernel_rfl) rfl rfl
                      have e1 := Flow.see_new 78 5 hH.sees (by kernel_rfl) (by kernel_rfl) rfl rfl
                      exact s_ixS (s := 1) ((aa - 1)) _ rfl Tryz.underlying74 (by kernel_rfl) (by first | exact e0 | simpa [Act.eval] using e0 | (simp [Act.eval])) (by first | exact e1 | simpa [Act.eval] using e1 | (simp [Act.eval])) (by omega) (by omega) (by omega)
                    refine Flow.pass_val (.int .u64 ((d4[(aa - 1)]! : Nat) : Int)) (Flow.met_some 2 true 75 rfl rfl (by kernel_rfl) (by kernel_rfl) rfl rfl) (fun a W hH => ?_) ?_
                    · have e0 := Flow.see_new 79 6 hH.sees (by kernel_rfl) (by kernel_rfl) rfl rfl
                      have cc := nr_cell (hN_W6.below ((Below.refl W6.heap.size W6).drew.trans hH.below) hN_W6.lt) ((aa - 1)) (by omega); go_simp; first | done | rfl
                    refine Flow.pass_old (X := .slice (some ⟨g, 0, none⟩) n cap) 0 (Flow.met_some 2 true 75 rfl rfl (by kernel_rfl) (by kernel_rfl) rfl rfl) (.inl rfl) (by kernel_rfl) (by kernel_rfl) rfl ?_
                    refine Flow.pass_old (X := .int .i64 ((p : Int))) 11 (Flow.met_some 2 true 75 rfl rfl (by kernel_rfl) (by kernel_rfl) rfl rfl) (.inl rfl) (by kernel_rfl) (by kernel_rfl) rfl ?_
                    refine Flow.pass_val (.pointer (some ⟨g, p, none⟩)) (Flow.met_some 2 true 75 rfl rfl (by kernel_rfl) (by kernel_rfl) rfl rfl) (fun a W hH => ?_) ?_
                    · have e0 := Flow.see_new 81 8 hH.sees (by kernel_rfl) (by kernel_rfl) rfl rfl
                      have e1 := Flow.see_new 82 9 hH.sees (by kernel_rfl) (by kernel_rfl) rfl rfl
                      exact s_ixS (s := 1) (p) _ rfl Tryz.underlying74 (by kernel_rfl) (by first | exact e0 | simpa [Act.eval] using e0 | (simp [Act.eval])) (by first | exact e1 | simpa [Act.eval] using e1 | (simp [Act.eval])) (by omega) (by omega) (by omega)
                    refine Flow.pass_val (.int .u64 ((d4[p]! : Nat) : Int)) (Flow.met_some 2 true 75 rfl rfl (by kernel_rfl) (by kernel_rfl) rfl rfl) (fun a W hH => ?_) ?_
                    · have e0 := Flow.see_new 83 10 hH.sees (by kernel_rfl) (by kernel_rfl) rfl rfl
                      have cc := nr_cell (hN_W6.below ((Below.refl W6.heap.size W6).drew.trans hH.below) hN_W6.lt) (p) (by omega); go_simp; first | done | rfl
                    refine Flow.pass_step (Reg.eqs (.bool (ltN (d4[(aa - 1)]!) (d4[p]!)))) (fun _ _ => Flow.kept_eqs _ _) (Flow.met_some 2 true 75 rfl rfl (by kernel_rfl) (by kernel_rfl) rfl rfl) (fun a W hH => ?_) ?_
                    · have e0 := Flow.see_new 80 7 hH.sees (by kernel_rfl) (by kernel_rfl) rfl rfl
                      have e1 := Flow.see_new 84 11 hH.sees (by kernel_rfl) (by kernel_rfl) rfl rfl
                      refine Reg.wp_call rfl Tryz.func162 rfl (by kernel_rfl) (by simp [Act.eval, e0, e1]) (lessN (d4[(aa - 1)]!) (d4[p]!) W) ?_
                      rintro e w' ⟨rfl, rfl⟩
                      exact ⟨_, rfl, _, rfl, Ext.refl _, rfl⟩
                    refine Flow.pass_val (.bool (!(ltN (d4[(aa - 1)]!) (d4[p]!)))) (Flow.met_some 2 true 75 rfl rfl (by kernel_rfl) (by kernel_rfl) rfl rfl) (fun a W hH => ?_) ?_
                    · have e0 := Flow.see_new 85 12 hH.sees (by kernel_rfl) (by kernel_rfl) rfl rfl
                      go_simp; first | done | rfl
                    refine Flow.pass_val (.bool (!(ltN (d4[(aa - 1)]!) (d4[p]!)))) (Flow.met_none rfl) (fun a W hH => ?_) ?_
                    · have e0 := Flow.see_new 75 2 hH.sees (by kernel_rfl) (by kernel_rfl) rfl rfl
                      have e1 := Flow.see_new 86 13 hH.sees (by kernel_rfl) (by kernel_rfl) rfl rfl
                      go_simp; first | done | rfl
                    refine Flow.pass_end [none, none, none, none, none, none, none, none, none, none, none, none, none, none, none, none, none, none, none, none, none, none, none, none, none, none, none, none, none, none, none, none, none, none, none, none, none, none, none, none, none, none, none, none, none, none, none, none, none, none, none, none, none, none, none, none, none, none, none, none, none, none, none, none, none, none, none, none, none, none, none, none, none, some 73, some 74, some 75, some 76, some 77, some 78, some 79, some 80, some 81, some 82, some 83, some 84, some 85, some 86, some 87, none, none, none, none, none, none, none, none, none, none, none, none, none, none, none, none, none, none, none, none, none, none, none, none, none, none, none, none, none, none, none, none, none, none, none, none, none, none, none, none, none, none, none, none, none, none] (by kernel_rfl) ?_
                    intro f gg w9 hB hfa hT hfg
                    have h87 : f 87 = _ := (hfg 87 14 (by kernel_rfl)).trans (hT 14 _ (by kernel_rfl) rfl)
                    exact hQ1 f w9 ⟨by rw [h87, decide_eq_true hg, Bool.true_and], (Below.refl W6.heap.size W6).drew.trans hB⟩
                  · skip
                    refine Flow.wp_region_flow (W6.heap.size) [] [] (by kernel_rfl) (by kernel_rfl) (Nat.le_refl _) (fun _ h => by cases h) Flow.facts_nil ?_
                    refine Flow.pass_old (X := .int .i64 ((aa : Int))) 1 (Flow.met_none rfl) (.inl rfl) (by kernel_rfl) (by kernel_rfl) rfl ?_
                    refine Flow.pass_val (.bool false) (Flow.met_none rfl) (fun a W hH => ?_) ?_
                    · have e0 := Flow.see_new 73 0 hH.sees (by kernel_rfl) (by kernel_rfl) rfl rfl
                      go_simp; first | done | rfl | omega | (simp; done) | (simp; omega) | exact decide_eq_true (by omega) | exact decide_eq_false (by omega)
                    refine Flow.pass_copy 74 1 (Flow.met_none rfl) (.inl rfl) (by kernel_rfl) (by kernel_rfl) rfl rfl (fun _ _ => Flow.kept_eqs _ _) ?_
                    refine Flow.pass_skip (fun a W hH => Flow.not_wanted 2 true 75 hH rfl rfl (by kernel_rfl) (by kernel_rfl) rfl rfl) ?_
                    refine Flow.pass_skip (fun a W hH => Flow.not_wanted 2 true 75 hH rfl rfl (by kernel_rfl) (by kernel_rfl) rfl rfl) ?_
                    refine Flow.pass_skip (fun a W hH => Flow.not_wanted 2 true 75 hH rfl rfl (by kernel_rfl) (by kernel_rfl) rfl rfl) ?_
                    refine Flow.pass_skip (fun a W hH => Flow.not_wanted 2 true 75 hH rfl rfl (by kernel_rfl) (by kernel_rfl) rfl rfl) ?_
                    refine Flow.pass_skip (fun a W hH => Flow.not_wanted 2 true 75 hH rfl rfl (by kernel_rfl) (by kernel_rfl) rfl rfl) ?_
                    refine Flow.pass_skip (fun a W hH => Flow.not_wanted 2 true 75 hH rfl rfl (by kernel_rfl) (by kernel_rfl) rfl rfl) ?_
                    refine Flow.pass_skip (fun a W hH => Flow.not_wanted 2 true 75 hH rfl rfl (by kernel_rfl) (by kernel_rfl) rfl rfl) ?_
                    refine Flow.pass_skip (fun a W hH => Flow.not_wanted 2 true 75 hH rfl rfl (by kernel_rfl) (by kernel_rfl) rfl rfl) ?_
                    refine Flow.pass_skip (fun a W hH => Flow.not_wanted 2 true 75 hH rfl rfl (by kernel_rfl) (by kernel_rfl) rfl rfl) ?_
                    refine Flow.pass_skip (fun a W hH => Flow.not_wanted 2 true 75 hH rfl rfl (by kernel_rfl) (by kernel_rfl) rfl rfl) ?_
                    refine Flow.pass_skip (fun a W hH => Flow.not_wanted 2 true 75 hH rfl rfl (by kernel_rfl) (by kernel_rfl) rfl rfl) ?_
                    refine Flow.pass_val (.bool false) (Flow.met_none rfl) (fun a W hH => ?_) ?_
                    · have e0 := Flow.see_new 75 2 hH.sees (by kernel_rfl) (by kernel_rfl) rfl rfl
                      have e1 := Flow.see_new 86 13 hH.sees (by kernel_rfl) (by kernel_rfl) rfl rfl
                      go_simp; first | done | rfl
                    refine Flow.pass_end [none, none, none, none, none, none, none, none, none, none, none, none, none, none, none, none, none, none, none, none, none, none, none, none, none, none, none, none, none, none, none, none, none, none, none, none, none, none, none, none, none, none, none, none, none, none, none, none, none, none, none, none, none, none, none, none, none, none, none, none, none, none, none, none, none, none, none, none, none, none, none, none, none, some 73, some 74, some 75, some 76, some 77, some 78, some 79, some 80, some 81, some 82, some 83, some 84, some 85, some 86, some 87, none, none, none, none, none, none, none, none, none, none, none, none, none, none, none, none, none, none, none, none, none, none, none, none, none, none, none, none, none, none, none, none, none, none, none, none, none, none, none, none, none, none, none, none, none, none] (by kernel_rfl) ?_
                    intro f gg w9 hB hfa hT hfg
                    have h87 : f 87 = _ := (hfg 87 14 (by kernel_rfl)).trans (hT 14 _ (by kernel_rfl) rfl)
                    exact hQ1 f w9 ⟨by rw [h87, decide_eq_false hg, Bool.false_and], (Below.refl W6.heap.size W6).drew.trans hB⟩
                intro f Wt ⟨h87, hBWt⟩
                simp only [Reg.sel, h87]
                have hN_Wt := Blk.below hN_W6 hBWt (Blk.lt hN_W6)
                have hC_Wt := hC_W6.trans (Chg.of_ext hBWt)
                clear h87 hBWt
                cases hq : (decide (0 < aa) && !ltN d4[aa - 1]! d4[p]!) with
                | true =>
                  have hq2 : 0 < aa ∧ ltN d4[aa - 1]! d4[p]! = false := by simpa using hq
                  obtain ⟨z1, z2, z3⟩ := hI_d4.out.eq hq2.1 hp.1 hp.2 hq2.2
                  have hcall := partitionEqual_walk g R d4 n cap aa bb p hI_d4.out.size hp.1 hp.2 hbn hn5 Wt hN_Wt
                  generalize Sort.partitionEqual ltN d4 aa bb p = r at *
                  obtain ⟨mid, d5⟩ := r
                  have z1 : aa < mid := z1
                  have z2 : mid ≤ bb := z2
                  have z3 : PI mid bb n d5 G := z3
                  have z3 := Lib.hid z3
                  clear hq hq2
                  go_wp2_with fail
                  refine Calls.mono hcall ?_
                  rintro e W7 ⟨rfl, hN7, hC7⟩
                  clear hcall
                  go_wp2
                  go_roundw
                  case rel => first | exact ⟨mid, bb, l, true, true, d5, rfl, rfl, rfl, rfl, rfl, by omega, z2, hbn, by omega, hl, z3, hN7, hC_Wt.trans hC7⟩ | ((repeat apply Exists.intro); refine ⟨?_, rfl⟩; exact ⟨mid, bb, l, true, true, d5, rfl, rfl, rfl, rfl, rfl, by omega, z2, hbn, by omega, hl, z3, hN7, hC_Wt.trans hC7⟩)
                  case measure => first | (simp [intOf]; done) | (simp [intOf]; omega) | (simp only [intOf]; omega)
                | false =>
                  obtain ⟨z1, z2, z3, z4, z5, z6, z7⟩ := hI_d4.out.part hp.1 hp.2
                  have hcall := partition_walk g R d4 n cap aa bb p hI_d4.out.size hp.1 hp.2 hbn hn5 Wt hN_Wt
                  generalize Sort.partition ltN d4 aa bb p = r at *
                  obtain ⟨mid, ap, d5⟩ := r
                  have z1 : aa ≤ mid := z1
                  have z2 : mid < bb := z2
                  have z3 : Sort.Below ltN aa mid d5 := z3
                  have z4 : Sort.Below ltN (mid + 1) bb d5 := z4
                  have z5 : d5.size = n := z5
                  have z6 : ∀ L, Sort.PermIn aa mid d5 L → Sort.SortedIn ltN aa mid L → PI (mid + 1) bb n L G := z6
                  have z7 : ∀ L, Sort.PermIn (mid + 1) bb d5 L → Sort.SortedIn ltN (mid + 1) bb L → PI aa mid n L G := z7
                  have z6 := Lib.hid z6
                  have z7 := Lib.hid z7
                  have z3 := Lib.hid z3
                  have z4 := Lib.hid z4
                  clear hq
                  go_wp2_with fail
                  refine Calls.mono hcall ?_
                  rintro e W7 ⟨rfl, hN7, hC7⟩
                  have hC_W7 := hC_Wt.trans hC7
                  have q1 : IntKind.i64.wrap ((mid : Int) - (aa : Int)) = (mid : Int) - (aa : Int) := IntWalk.i64_in _ (by omega)
                  have q2 : IntKind.i64.wrap ((bb : Int) - (mid : Int)) = (bb : Int) - (mid : Int) := IntWalk.i64_in _ (by omega)
                  have q3 : IntKind.i64.wrap ((mid : Int) + 1) = ((mid + 1 : Nat) : Int) := by rw [IntWalk.i64_in _ (by omega)]; omega
                  clear hcall hC7 hC_Wt
                  by_cases hlr : mid - aa < bb - mid
                  · have hlri : (mid : Int) - (aa : Int) < (bb : Int) - (mid : Int) := by omega
                    have hrec := ih (mid - aa) (by omega) d5 aa mid l W7 rfl z5 z1 (by omega) hl z3.out hN7
                    go_wp2_with fail
                    refine Calls.mono hrec ?_
                    rintro e W8 ⟨rfl, d6, ⟨hp6, hs6⟩, hN8, hC8⟩
                    have hI6 := Lib.hid (z6.out d6 hp6 hs6)
                    clear hrec hp6 hs6
                    go_wp2
                    go_roundw
                    case rel => first | exact ⟨mid + 1, bb, l, _, ap, d6, by go_num, rfl, rfl, rfl, rfl, by omega, by omega, hbn, by omega, hl, hI6, hN8, hC_W7.trans hC8⟩ | ((repeat apply Exists.intro); refine ⟨?_, rfl⟩; exact ⟨mid + 1, bb, l, _, ap, d6, by go_num, rfl, rfl, rfl, rfl, by omega, by omega, hbn, by omega, hl, hI6, hN8, hC_W7.trans hC8⟩)
                    case measure => first | (simp [intOf]; done) | (simp [intOf]; omega) | (simp only [intOf]; omega)
                  · have hlri : ¬ (mid : Int) - (aa : Int) < (bb : Int) - (mid : Int) := by omega
                    have hrec := ih (bb - (mid + 1)) (by omega) d5 (mid + 1) bb l W7 rfl z5 (by omega) hbn hl z4.out hN7
                    go_wp2_with fail
                    refine Calls.mono hrec ?_
                    rintro e W8 ⟨rfl, d6, ⟨hp6, hs6⟩, hN8, hC8⟩
                    have hI6 := Lib.hid (z7.out d6 hp6 hs6)
                    clear hrec hp6 hs6
                    go_wp2
                    go_roundw
                    case rel => first | exact ⟨aa, mid, l, _, ap, d6, rfl, rfl, rfl, rfl, rfl, hla, z1, by omega, by omega, hl, hI6, hN8, hC_W7.trans hC8⟩ | ((repeat apply Exists.intro); refine ⟨?_, rfl⟩; exact ⟨aa, mid, l, _, ap, d6, rfl, rfl, rfl, rfl, rfl, hla, z1, by omega, by omega, hl, hI6, hN8, hC_W7.trans hC8⟩)
                    case measure => first | (simp [intOf]; done) | (simp [intOf]; omega) | (simp only [intOf]; omega)
            · skip
              have hcall := reverseRange_walk g R d1 n cap aa bb hI_d1.out.size (by omega) hbn hn5 W3 hN_W3
              obtain ⟨p2, hp2e⟩ : ∃ q, bb - 1 - (p - aa) = q := ⟨_, rfl⟩
              have hp2 : aa ≤ p2 ∧ p2 < bb := by omega
              have u1 : IntKind.i64.wrap ((bb : Int) - 1) = (bb : Int) - 1 := IntWalk.i64_in _ (by omega)
              have u2 : IntKind.i64.wrap ((p : Int) - (aa : Int)) = (p : Int) - (aa : Int) := IntWalk.i64_in _ (by omega)
              have u3 : IntKind.i64.wrap ((bb : Int) - 1 - ((p : Int) - (aa : Int))) = (p2 : Int) := by rw [IntWalk.i64_in _ (by omega)]; omega
              clear hp2e
              go_wp2_with fail
              refine Calls.mono hcall ?_
              rintro e W5 ⟨rfl, d3, hpm, hN_W5, hC5⟩
              have hC_W5 := hC_W3.trans hC5
              have hI_d3 := Lib.hid (hI_d1.out.perm hpm)
              clear hcall hC5 hpm hN_W3 hC_W3
              have hcall := partialIns_walk g R d3 n cap aa bb hI_d3.out.size (by omega) hbn hn5 W5 hN_W5
              obtain ⟨z1, z2⟩ := Sort.partialInsertionSort_holds (lt := ltN) swoN d3 aa bb (by omega) (by rw [hI_d3.out.size]; exact hbn) hI_d3.out.below
              have z2 := fun h => hI_d3.out.fin _ z1 (z2 h)
              have z1 := Lib.hid (hI_d3.out.perm z1)
              have z2 := Lib.hid z2
              generalize Sort.partialInsertionSort ltN d3 aa bb = r at *
              obtain ⟨d4, ok⟩ := r
              go_wp2_with fail
              refine Calls.mono hcall ?_
              rintro e W6 ⟨rfl, hN_W6, hC6⟩
              have hC_W6 := hC_W5.trans hC6
              have hI_d4 : Hid (PI aa bb n d4 G) := z1
              clear hcall hC6 z1
              cases ok with
              | true =>
                go_wp2
                refine bodyPost_ret (results_none rfl _ _ _) rfl ?_
                exact ⟨rfl, d4, HG.out _ (z2.out (by first | rfl | trivial)), hN_W6, hC_W6⟩
              | false =>
                clear z2
                go_wp2_with fail
                have hs_d4 : d4.size = n := hI_d4.out.size
                refine s_cut [none, none, none, none, none, none, none, none, none, none, none, none, none, none, none, none, none, none, none, none, none, none, none, none, none, none, none, none, none, none, none, none, none, none, none, none, none, none, none, none, none, none, none, none, none, none, none, none, none, none, none, none, none, none, none, none, none, none, none, none, none, none, none, none, none, none, none, none, none, none, none, none, none, some 73, some 74, some 75, some 76, some 77, some 78, some 79, some 80, some 81, some 82, some 83, some 84, some 85, some 86, some 87, none, none, none, none, none, none, none, none, none, none, none, none, none, none, none, none, none, none, none, none, none, none, none, none, none, none, none, none, none, none, none, none, none, none, none, none, none, none, none, none, none, none, none, none, none, none] (fun f W => f 87 = .bool (decide (0 < aa) && !ltN d4[aa - 1]! d4[p2]!) ∧ Below W6.heap.size W6 W) (fun Q1 hQ1 => ?_) ?_
                · by_cases hg : 0 < aa
                  · skip
                    refine Flow.wp_region_flow (W6.heap.size) [] [] (by kernel_rfl) (by kernel_rfl) (Nat.le_refl _) (fun _ h => by cases h) Flow.facts_nil ?_
                    refine Flow.pass_old (X := .int .i64 ((aa : Int))) 1 (Flow.met_none rfl) (.inl rfl) (by kernel_rfl) (by kernel_rfl) rfl ?_
                    refine Flow.pass_val (.bool true) (Flow.met_none rfl) (fun a W hH => ?_) ?_
                    · have e0 := Flow.see_new 73 0 hH.sees (by kernel_rfl) (by kernel_rfl) rfl rfl
                      go_simp; first | done | rfl | omega | (simp; done) | (simp; omega) | exact decide_eq_true (by omega) | exact decide_eq_false (by omega)
                    refine Flow.pass_copy 74 1 (Flow.met_none rfl) (.inl rfl) (by kernel_rfl) (by kernel_rfl) rfl rfl (fun _ _ => Flow.kept_eqs _ _) ?_
                    refine Flow.pass_old (X := .slice (some ⟨g, 0, none⟩) n cap) 0 (Flow.met_some 2 true 75 rfl rfl (by kernel_rfl) (by kernel_rfl) rfl rfl) (.inl rfl) (by kernel_rfl) (by kernel_rfl) rfl ?_
                    refine Flow.pass_old (X := .int .i64 ((aa : Int))) 1 (Flow.met_some 2 true 75 rfl rfl (by kernel_rfl) (by kernel_rfl) rfl rfl) (.inl rfl) (by kernel_rfl) (by kernel_rfl) rfl ?_
                    refine Flow.pass_val (.int .i64 ((aa : Int) - 1)) (Flow.met_some 2 true 75 rfl rfl (by kernel_rfl) (by kernel_rfl) rfl rfl) (fun a W hH => ?_) ?_
                    · have e0 := Flow.see_new 77 4 hH.sees (by kernel_rfl) (by kernel_rfl) rfl rfl
                      go_simp; first | done | rfl | (rw [IntWalk.i64_in _ (by omega)]; first | done | rfl | omega | (simp; done))
                    refine Flow.pass_val (.pointer (some ⟨g, (aa - 1), none⟩)) (Flow.met_some 2 true 75 rfl rfl (by kernel_rfl) (by kernel_rfl) rfl rfl) (fun a W hH => ?_) ?_
                    · have e0 := Flow.see_new 76 3 hH.sees (by kernel_rfl) (by kernel_rfl) rfl rfl
                      have e1 := Flow.see_new 78 5 hH.sees (by kernel_rfl) (by kernel_rfl) rfl rfl
                      exact s_ixS (s := 1) ((aa - 1)) _ rfl Tryz.underlying74 (by kernel_rfl) (by first | exact e0 | simpa [Act.eval] using e0 | (simp [Act.eval])) (by first | exact e1 | simpa [Act.eval] using e1 | (simp [Act.eval])) (by omega) (by omega) (by omega)
                    refine Flow.pass_val (.int .u64 ((d4[(aa - 1)]! : Nat) : Int)) (Flow.met_some 2 true 75 rfl rfl (by kernel_rfl) (by kernel_rfl) rfl rfl) (fun a W hH => ?_) ?_
                    · have e0 := Flow.see_new 79 6 hH.sees (by kernel_rfl) (by kernel_rfl) rfl rfl
                      have cc := nr_cell (hN_W6.below ((Below.refl W6.heap.size W6).drew.trans hH.below) hN_W6.lt) ((aa - 1)) (by omega); go_simp; first | done | rfl
                    refine Flow.pass_old (X := .slice (some ⟨g, 0, none⟩) n cap) 0 (Flow.met_some 2 true 75 rfl rfl (by kernel_rfl) (by kernel_rfl) rfl rfl) (.inl rfl) (by kernel_rfl) (by kernel_rfl) rfl ?_
                    refine Flow.pass_old (X := .int .i64 ((p2 : Int))) 11 (Flow.met_some 2 true 75 rfl rfl (by kernel_rfl) (by kernel_rfl) rfl rfl) (.inl rfl) (by kernel_rfl) (by kernel_rfl) rfl ?_
                    refine Flow.pass_val (.pointer (some ⟨g, p2, none⟩)) (Flow.met_some 2 true 75 rfl rfl (by kernel_rfl) (by kernel_rfl) rfl rfl) (fun a W hH => ?_) ?_
                    · have e0 := Flow.see_new 81 8 hH.sees (by kernel_rfl) (by kernel_rfl) rfl rfl
                      have e1 := Flow.see_new 82 9 hH.sees (by kernel_rfl) (by kernel_rfl) rfl rfl
                      exact s_ixS (s := 1) (p2) _ rfl Tryz.underlying74 (by kernel_rfl) (by first | exact e0 | simpa [Act.eval] using e0 | (simp [Act.eval])) (by first | exact e1 | simpa [Act.eval] using e1 | (simp [Act.eval])) (by omega) (by omega) (by omega)
                    refine Flow.pass_val (.int .u64 ((d4[p2]! : Nat) : Int)) (Flow.met_some 2 true 75 rfl rfl (by kernel_rfl) (by kernel_rfl) rfl rfl) (fun a W hH => ?_) ?_
                    · have e0 := Flow.see_new 83 10 hH.sees (by kernel_rfl) (by kernel_rfl) rfl rfl
                      have cc := nr_cell (hN_W6.below ((Below.refl W6.heap.size W6).drew.trans hH.below) hN_W6.lt) (p2) (by omega); go_simp; first | done | rfl
                    refine Flow.pass_step (Reg.eqs (.bool (ltN (d4[(aa - 1)]!) (d4[p2]!)))) (fun _ _ => Flow.kept_eqs _ _) (Flow.met_some 2 true 75 rfl rfl (by kernel_rfl) (by kernel_rfl) rfl rfl) (fun a W hH => ?_) ?_
                    · have e0 := Flow.see_new 80 7 hH.sees (by kernel_rfl) (by kernel_rfl) rfl rfl
                      have e1 := Flow.see_new 84 11 hH.sees (by kernel_rfl) (by kernel_rfl) rfl rfl
                      refine Reg.wp_call rfl Tryz.func162 rfl (by kernel_rfl) (by simp [Act.eval, e0, e1]) (lessN (d4[(aa - 1)]!) (d4[p2]!) W) ?_
                      rintro e w' ⟨rfl, rfl⟩
                      exact ⟨_, rfl, _, rfl, Ext.refl _, rfl⟩
                    refine Flow.pass_val (.bool (!(ltN (d4[(aa - 1)]!) (d4[p2]!)))) (Flow.met_some 2 true 75 rfl rfl (by kernel_rfl) (by kernel_rfl) rfl rfl) (fun a W hH => ?_) ?_
                    · have e0 := Flow.see_new 85 12 hH.sees (by kernel_rfl) (by kernel_rfl) rfl rfl
                      go_simp; first | done | rfl
                    refine Flow.pass_val (.bool (!(ltN (d4[(aa - 1)]!) (d4[p2]!)))) (Flow.met_none rfl) (fun a W hH => ?_) ?_
                    · have e0 := Flow.see_new 75 2 hH.sees (by kernel_rfl) (by kernel_rfl) rfl rfl
                      have e1 := Flow.see_new 86 13 hH.sees (by kernel_rfl) (by kernel_rfl) rfl rfl
                      go_simp; first | done | rfl
                    refine Flow.pass_end [none, none, none, none, none, none, none, none, none, none, none, none, none, none, none, none, none, none, none, none, none, none, none, none, none, none, none, none, none, none, none, none, none, none, none, none, none, none, none, none, none, none, none, none, none, none, none, none, none, none, none, none, none, none, none, none, none, none, none, none, none, none, none, none, none, none, none, none, none, none, none, none, none, some 73, some 74, some 75, some 76, some 77, some 78, some 79, some 80, some 81, some 82, some 83, some 84, some 85, some 86, some 87, none, none, none, none, none, none, none, none, none, none, none, none, none, none, none, none, none, none, none, none, none, none, none, none, none, none, none, none, none, none, none, none, none, none, none, none, none, none, none, none, none, none, none, none, none, none] (by kernel_rfl) ?_
                    intro f gg w9 hB hfa hT hfg
                    have h87 : f 87 = _ := (hfg 87 14 (by kernel_rfl)).trans (hT 14 _ (by kernel_rfl) rfl)
                    exact hQ1 f w9 ⟨by rw [h87, decide_eq_true hg, Bool.true_and], (Below.refl W6.heap.size W6).drew.trans hB⟩
                  · skip
                    refine Flow.wp_region_flow (W6.heap.size) [] [] (by kernel_rfl) (by kernel_rfl) (Nat.le_refl _) (fun _ h => by cases h) Flow.facts_nil ?_
                    refine Flow.pass_old (X := .int .i64 ((aa : Int))) 1 (Flow.met_none rfl) (.inl rfl) (by kernel_rfl) (by kernel_rfl) rfl ?_
                    refine Flow.pass_val (.bool false) (Flow.met_none rfl) (fun a W hH => ?_) ?_
                    · have e0 := Flow.see_new 73 0 hH.sees (by kernel_rfl) (by kernel_rfl) rfl rfl
                      go_simp; first | done | rfl | omega | (simp; done) | (simp; omega) | exact decide_eq_true (by omega) | exact decide_eq_false (by omega)
                    refine Flow.pass_copy 74 1 (Flow.met_none rfl) (.inl rfl) (by kernel_rfl) (by kernel_rfl) rfl rfl (fun _ _ => Flow.kept_eqs _ _) ?_
                    refine Flow.pass_skip (fun a W hH => Flow.not_wanted 2 true 75 hH rfl rfl (by kernel_rfl) (by kernel_rfl) rfl rfl) ?_
                    refine Flow.pass_skip (fun a W hH => Flow.not_wanted 2 true 75 hH rfl rfl (by kernel_rfl) (by kernel_rfl) rfl rfl) ?_
                    refine Flow.pass_skip (fun a W hH => Flow.not_wanted 2 true 75 hH rfl rfl (by kernel_rfl) (by kernel_rfl) rfl rfl) ?_
                    refine Flow.pass_skip (fun a W hH => Flow.not_wanted 2 true 75 hH rfl rfl (by kernel_rfl) (by kernel_rfl) rfl rfl) ?_
                    refine Flow.pass_skip (fun a W hH => Flow.not_wanted 2 true 75 hH rfl rfl (by kernel_rfl) (by kernel_rfl) rfl rfl) ?_
                    refine Flow.pass_skip (fun a W hH => Flow.not_wanted 2 true 75 hH rfl rfl (by kernel_rfl) (by kernel_rfl) rfl rfl) ?_
                    refine Flow.pass_skip (fun a W hH => Flow.not_wanted 2 true 75 hH rfl rfl (by kernel_rfl) (by kernel_rfl) rfl rfl) ?_
                    refine Flow.pass_skip (fun a W hH => Flow.not_wanted 2 true 75 hH rfl rfl (by kernel_rfl) (by kernel_rfl) rfl rfl) ?_
                    refine Flow.pass_skip (fun a W hH => Flow.not_wanted 2 true 75 hH rfl rfl (by kernel_rfl) (by kernel_rfl) rfl rfl) ?_
                    refine Flow.pass_skip (fun a W hH => Flow.not_wanted 2 true 75 hH rfl rfl (by kernel_rfl) (by kernel_rfl) rfl rfl) ?_
                    refine Flow.pass_skip (fun a W hH => Flow.not_wanted 2 true 75 hH rfl rfl (by kernel_rfl) (by kernel_rfl) rfl rfl) ?_
                    refine Flow.pass_val (.bool false) (Flow.met_none rfl) (fun a W hH => ?_) ?_
                    · have e0 := Flow.see_new 75 2 hH.sees (by kernel_rfl) (by kernel_rfl) rfl rfl
                      have e1 := Flow.see_new 86 13 hH.sees (by kernel_rfl) (by kernel_rfl) rfl rfl
                      go_simp; first | done | rfl
                    refine Flow.pass_end [none, none, none, none, none, none, none, none, none, none, none, none, none, none, none, none, none, none, none, none, none, none, none, none, none, none, none, none, none, none, none, none, none, none, none, none, none, none, none, none, none, none, none, none, none, none, none, none, none, none, none, none, none, none, none, none, none, none, none, none, none, none, none, none, none, none, none, none, none, none, none, none, none, some 73, some 74, some 75, some 76, some 77, some 78, some 79, some 80, some 81, some 82, some 83, some 84, some 85, some 86, some 87, none, none, none, none, none, none, none, none, none, none, none, none, none, none, none, none, none, none, none, none, none, none, none, none, none, none, none, none, none, none, none, none, none, none, none, none, none, none, none, none, none, none, none, none, none, none] (by kernel_rfl) ?_
                    intro f gg w9 hB hfa hT hfg
                    have h87 : f 87 = _ := (hfg 87 14 (by kernel_rfl)).trans (hT 14 _ (by kernel_rfl) rfl)
                    exact hQ1 f w9 ⟨by rw [h87, decide_eq_false hg, Bool.false_and], (Below.refl W6.heap.size W6).drew.trans hB⟩
                intro f Wt ⟨h87, hBWt⟩
                simp only [Reg.sel, h87]
                have hN_Wt := Blk.below hN_W6 hBWt (Blk.lt hN_W6)
                have hC_Wt := hC_W6.trans (Chg.of_ext hBWt)
                clear h87 hBWt
                cases hq : (decide (0 < aa) && !ltN d4[aa - 1]! d4[p2]!) with
                | true =>
                  have hq2 : 0 < aa ∧ ltN d4[aa - 1]! d4[p2]! = false := by simpa using hq
                  obtain ⟨z1, z2, z3⟩ := hI_d4.out.eq hq2.1 hp2.1 hp2.2 hq2.2
                  have hcall := partitionEqual_walk g R d4 n cap aa bb p2 hI_d4.out.size hp2.1 hp2.2 hbn hn5 Wt hN_Wt
                  generalize Sort.partitionEqual ltN d4 aa bb p2 = r at *
                  obtain ⟨mid, d5⟩ := r
                  have z1 : aa < mid := z1
                  have z2 : mid ≤ bb := z2
                  have z3 : PI mid bb n d5 G := z3
                  have z3 := Lib.hid z3
                  clear hq hq2
                  go_wp2_with fail
                  refine Calls.mono hcall ?_
                  rintro e W7 ⟨rfl, hN7, hC7⟩
                  clear hcall
                  go_wp2
                  go_roundw
                  case rel => first | exact ⟨mid, bb, l, true, true, d5, rfl, rfl, rfl, rfl, rfl, by omega, z2, hbn, by omega, hl, z3, hN7, hC_Wt.trans hC7⟩ | ((repeat apply Exists.intro); refine ⟨?_, rfl⟩; exact ⟨mid, bb, l, true, true, d5, rfl, rfl, rfl, rfl, rfl, by omega, z2, hbn, by omega, hl, z3, hN7, hC_Wt.trans hC7⟩)
                  case measure => first | (simp [intOf]; done) | (simp [intOf]; omega) | (simp only [intOf]; omega)
                | false =>
                  obtain ⟨z1, z2, z3, z4, z5, z6, z7⟩ := hI_d4.out.part hp2.1 hp2.2
                  have hcall := partition_walk g R d4 n cap aa bb p2 hI_d4.out.size hp2.1 hp2.2 hbn hn5 Wt hN_Wt
                  generalize Sort.partition ltN d4 aa bb p2 = r at *
                  obtain ⟨mid, ap, d5⟩ := r
                  have z1 : aa ≤ mid := z1
                  have z2 : mid < bb := z2
                  have z3 : Sort.Below ltN aa mid d5 := z3
                  have z4 : Sort.Below ltN (mid + 1) bb d5 := z4
                  have z5 : d5.size = n := z5
                  have z6 : ∀ L, Sort.PermIn aa mid d5 L → Sort.SortedIn ltN aa mid L → PI (mid + 1) bb n L G := z6
                  have z7 : ∀ L, Sort.PermIn (mid + 1) bb d5 L → Sort.SortedIn ltN (mid + 1) bb L → PI aa mid n L G := z7
                  have z6 := Lib.hid z6
                  have z7 := Lib.hid z7
                  have z3 := Lib.hid z3
                  have z4 := Lib.hid z4
                  clear hq
                  go_wp2_with fail
                  refine Calls.mono hcall ?_
                  rintro e W7 ⟨rfl, hN7, hC7⟩
                  have hC_W7 := hC_Wt.trans hC7
                  have q1 : IntKind.i64.wrap ((mid : Int) - (aa : Int)) = (mid : Int) - (aa : Int) := IntWalk.i64_in _ (by omega)
                  have q2 : IntKind.i64.wrap ((bb : Int) - (mid : Int)) = (bb : Int) - (mid : Int) := IntWalk.i64_in _ (by omega)
                  have q3 : IntKind.i64.wrap ((mid : Int) + 1) = ((mid + 1 : Nat) : Int) := by rw [IntWalk.i64_in _ (by omega)]; omega
                  clear hcall hC7 hC_Wt
                  by_cases hlr : mid - aa < bb - mid
                  · have hlri : (mid : Int) - (aa : Int) < (bb : Int) - (mid : Int) := by omega
                    have hrec := ih (mid - aa) (by omega) d5 aa mid l W7 rfl z5 z1 (by omega) hl z3.out hN7
                    go_wp2_with fail
                    refine Calls.mono hrec ?_
                    rintro e W8 ⟨rfl, d6, ⟨hp6, hs6⟩, hN8, hC8⟩
                    have hI6 := Lib.hid (z6.out d6 hp6 hs6)
                    clear hrec hp6 hs6
                    go_wp2
                    go_roundw
                    case rel => first | exact ⟨mid + 1, bb, l, _, ap, d6, by go_num, rfl, rfl, rfl, rfl, by omega, by omega, hbn, by omega, hl, hI6, hN8, hC_W7.trans hC8⟩ | ((repeat apply Exists.intro); refine ⟨?_, rfl⟩; exact ⟨mid + 1, bb, l, _, ap, d6, by go_num, rfl, rfl, rfl, rfl, by omega, by omega, hbn, by omega, hl, hI6, hN8, hC_W7.trans hC8⟩)
                    case measure => first | (simp [intOf]; done) | (simp [intOf]; omega) | (simp only [intOf]; omega)
                  · have hlri : ¬ (mid : Int) - (aa : Int) < (bb : Int) - (mid : Int) := by omega
                    have hrec := ih (bb - (mid + 1)) (by omega) d5 (mid + 1) bb l W7 rfl z5 (by omega) hbn hl z4.out hN7
                    go_wp2_with fail
                    refine Calls.mono hrec ?_
                    rintro e W8 ⟨rfl, d6, ⟨hp6, hs6⟩, hN8, hC8⟩
                    have hI6 := Lib.hid (z7.out d6 hp6 hs6)
                    clear hrec hp6 hs6
                    go_wp2
                    go_roundw
                    case rel => first | exact ⟨aa, mid, l, _, ap, d6, rfl, rfl, rfl, rfl, rfl, hla, z1, by omega, by omega, hl, hI6, hN8, hC_W7.trans hC8⟩ | ((repeat apply Exists.intro); refine ⟨?_, rfl⟩; exact ⟨aa, mid, l, _, ap, d6, rfl, rfl, rfl, rfl, rfl, hla, z1, by omega, by omega, hl, hI6, hN8, hC_W7.trans hC8⟩)
                    case measure => first | (simp [intOf]; done) | (simp [intOf]; omega) | (simp only [intOf]; omega)
end Go.Proofs.YtipdmhppadapkaaGreatDoor
/-
  Walks: slices.Sort at uint64; slices.ContainsFunc at bytes that are not 0.
-/
namespace Go.Proofs.YtipdmhppadapkaaGreatDoor
open Go.RowKit

theorem ucells_one {l : List Nat} : ∀ v ∈ ucells l, v.oneCell' = true := by
  intro v hv
  simp only [ucells, List.mem_map] at hv
  obtain ⟨x, _, rfl⟩ := hv
  rfl

set_option maxRecDepth 100000 in
set_option maxHeartbeats 1000000 in
theorem len0_walk (w : World) : Calls Tryz.prog 137 #[.int .u64 0] w fun e w' => e = .returned (.int .i64 0) ∧ w' = w := by
  have h64 : Calls Tryz.prog 166 #[.int .u64 0] w fun e w' => e = .returned (.int .i64 0) ∧ w' = w := by
    have hr := fun W => run_len8 W 0 (by omega)
    have e0 : len8N 0 = 0 := by decide +kernel
    rw [e0] at hr
    unfold len8 at hr
    go_enter Tryz.func166, Tryz.ntmps166
    go_wp2
    go_ret
    exact ⟨by first | rfl | (simp; rfl) | (simp; decide +kernel), rfl⟩
  go_enter Tryz.func137, Tryz.ntmps137
  go_wp2_with fail
  refine Calls.mono h64 ?_
  rintro e w' ⟨rfl, rfl⟩
  go_wp2
  go_ret
  exact ⟨rfl, rfl⟩
set_option maxRecDepth 100000 in
set_option maxHeartbeats 1000000 in
theorem sortNil_walk (A : Option Addr) (c : Nat) (w : World) : Calls Tryz.prog 104 #[.slice A 0 c] w fun e w' => e = .returned (.tuple #[]) ∧ w' = w := by
  have hins : Calls Tryz.prog 156 #[.slice A 0 c, .int .i64 0, .int .i64 0] w fun e w' => e = .returned (.tuple #[]) ∧ w' = w := by
    go_enter Tryz.func156, Tryz.ntmps156
    go_wp2
    go_loopw [6] (fun i wr => i = .int .i64 1 ∧ wr = w) (fun _ _ => 0)
    case atStart => exact ⟨rfl, rfl⟩
    case round =>
      obtain ⟨rfl, rfl⟩ := hrel
      go_wp2
      first | go_end0 | skip
      first | exact ⟨rfl, rfl⟩ | exact ⟨rfl, _, results_none rfl _ _ _, rfl, rfl⟩
  have hpdq : Calls Tryz.prog 136 #[.slice A 0 c, .int .i64 0, .int .i64 0, .int .i64 0] w fun e w' => e = .returned (.tuple #[]) ∧ w' = w := by
    go_enter Tryz.func136, Tryz.ntmps136
    go_wp2
    go_loopw [1, 2, 3, 8, 9] (fun a b c d e wr => a = .int .i64 0 ∧ b = .int .i64 0 ∧ c = .int .i64 0 ∧ d = .bool true ∧ e = .bool true ∧ wr = w) (fun _ _ _ _ _ _ => 0)
    case atStart => exact ⟨rfl, rfl, rfl, rfl, rfl, rfl⟩
    case round =>
      obtain ⟨rfl, rfl, rfl, rfl, rfl, rfl⟩ := hrel
      go_wp2_with fail
      refine Calls.mono hins ?_
      rintro e w' ⟨rfl, rfl⟩
      go_wp2
      first | go_end0 | skip
      first | exact ⟨rfl, rfl⟩ | exact ⟨rfl, _, results_none rfl _ _ _, rfl, rfl⟩
  have hl := len0_walk w
  go_enter Tryz.func104, Tryz.ntmps104
  go_wp2_with fail
  refine Calls.mono hl ?_
  rintro e w' ⟨rfl, rfl⟩
  go_wp2_with fail
  refine Calls.mono hpdq ?_
  rintro e w' ⟨rfl, rfl⟩
  go_wp2
  first | go_end0 | skip
  first | exact ⟨rfl, rfl⟩ | exact ⟨rfl, _, results_none rfl _ _ _, rfl, rfl⟩
set_option maxRecDepth 100000 in
set_option maxHeartbeats 1000000 in
theorem sort_walk (g : Nat) (R : List Value) (d : Array Nat) (n cap : Nat) (hn : d.size = n) (h0 : 0 < n) (hn5 : n ≤ 1000000) (w : World) (hN : NR w g d R) :
    Calls Tryz.prog 104 #[.slice (some ⟨g, 0, none⟩) n cap] w (SRet w g R fun d' => Sort.PermIn 0 n d d' ∧ Sort.SortedIn ltN 0 n d') := by
  have hw : IntKind.u64.wrap (n : Int) = (n : Int) := IntWalk.u64_in _ (by omega)
  have hl := len_walk n h0 hn5 w
  go_enter Tryz.func104, Tryz.ntmps104
  go_wp2_with fail
  refine Calls.mono hl ?_
  rintro e w' ⟨⟨L, hL, rfl⟩, rfl⟩
  have hp := pdq_walk g R n cap hn5 n d 0 n L w' (by omega) hn (by omega) (by omega) (by have := hL.2; omega) (Or.inl rfl) hN
  clear hl hL
  go_wp2_with fail
  refine Calls.mono hp ?_
  rintro e W2 ⟨rfl, d2, hd2, hN2, hC2⟩
  have hd2 := Lib.hid hd2
  clear hp
  go_wp2
  refine bodyPost_ret (results_none rfl _ _ _) rfl ?_
  exact ⟨rfl, d2, hd2.out, hN2, hC2⟩

/-- some byte is not 0 -/
def someB (l : List UInt8) : Bool := l.any fun b => b != 0
set_option maxRecDepth 100000 in
set_option maxHeartbeats 1000000 in
theorem nz_walk (b : UInt8) (w : World) : Calls Tryz.prog 69 #[.int .u8 (b.toNat : Int)] w fun e w' => e = .returned (.bool (b != 0)) ∧ w' = w := by
  have hb : ((b.toNat : Int) != 0) = (b != 0) := by
    have h1 : b.toNat = 0 ↔ b = 0 := UInt8.toNat_inj (b := 0)
    rw [Bool.eq_iff_iff]
    simp [← h1]
  go_enter Tryz.func69, Tryz.ntmps69
  go_wp2
  go_ret
  exact ⟨by first | rfl | (rw [← hb]; rfl) | (simp [← hb]; done), rfl⟩
set_option maxRecDepth 100000 in
set_option maxHeartbeats 1000000 in
theorem indexF_walk (A : Option Addr) (n c : Nat) (l : List UInt8) (w : World) (hR : Rd w w.heap.size 1 A n (bcells l)) (hn : n ≤ 1000000) :
    Calls Tryz.prog 106 #[.slice A n c, .func (.func 69) #[] #[]] w fun e w' => (∃ k : Int, e = .returned (.int .i64 k) ∧ decide (0 ≤ k) = someB l) ∧ w' = w := by
  have hl : n = l.length := by have := hR.len; rw [bcells_length] at this; omega
  have HL := Lib.hid hl
  have hf := Tryz.func69
  clear hl
  go_enter Tryz.func106, Tryz.ntmps106
  go_wp2
  go_loopw [8] (fun i wr => ∃ k : Nat, k ≤ n ∧ i = .int .i64 (k : Int) ∧ Hid (someB (l.take k) = false) ∧ wr = w) (fun i _ => n - (intOf i).toNat)
  case atStart => exact ⟨0, Nat.zero_le _, rfl, Lib.hid rfl, rfl⟩
  case round =>
    obtain ⟨k, hk, rfl, hs, rfl⟩ := hrel
    by_cases hlt : k < n
    · have hlti : (k : Int) < (n : Int) := by omega
      have hkl : k < l.length := by rw [← HL.out]; exact hlt
      obtain ⟨b, off, rfl, hb, hrg⟩ := hR.range (by omega)
      have hcell : wr.cell? ⟨b, off + k, none⟩ = some (.int .u8 ((l[k].toNat : Nat) : Int)) := hrg k _ (by simp [bcells, hkl])
      obtain ⟨x, hx⟩ : ∃ x, x = l[k] := ⟨_, rfl⟩
      rw [← hx] at hcell
      have HX := Lib.hid hx
      have hcall := nz_walk x wr
      clear hx
      go_wp2_with fail
      refine Calls.mono hcall ?_
      rintro e w' ⟨rfl, rfl⟩
      have hkl : k < l.length := by rw [← HL.out]; exact hlt
      have htk := Lib.hid (show someB (l.take (k + 1)) = (someB (l.take k) || (l[k] != 0)) by unfold someB; rw [List.take_succ_eq_append_getElem hkl, List.any_append, List.any_cons, List.any_nil, Bool.or_false])
      cases hq : (x != 0) with
      | true =>
        have hfin : Hid (someB l = true) := Lib.hid (by
          have h1 := htk.out
          rw [hs.out, ← HX.out, hq] at h1
          unfold someB at h1 ⊢
          rw [← List.take_append_drop (k + 1) l, List.any_append, h1]; rfl)
        clear hcall hq
        go_wp2
        go_ret
        exact ⟨⟨_, rfl, by rw [hfin.out]; exact decide_eq_true (by omega)⟩, rfl⟩
      | false =>
        have hs2 : Hid (someB (l.take (k + 1)) = false) := Lib.hid (by rw [htk.out, hs.out, ← HX.out, hq]; rfl)
        clear hcall hq
        go_wp2
        go_roundw
        case rel => exact ⟨k + 1, by omega, by go_num, hs2, by first | rfl | trivial⟩
        case measure => simp [intOf]; omega
    · have hlti : ¬ (k : Int) < (n : Int) := by omega
      have hfin : Hid (someB l = false) := Lib.hid (by have := hs.out; rwa [List.take_of_length_le (by rw [← HL.out]; omega)] at this)
      go_wp2
      go_ret
      exact ⟨⟨_, rfl, by rw [hfin.out]; rfl⟩, rfl⟩
set_option maxRecDepth 100000 in
set_option maxHeartbeats 1000000 in
theorem containsF_walk (A : Option Addr) (n c : Nat) (l : List UInt8) (w : World) (hR : Rd w w.heap.size 1 A n (bcells l)) (hn : n ≤ 1000000) :
    Calls Tryz.prog 68 #[.slice A n c, .func (.func 69) #[] #[]] w fun e w' => e = .returned (.bool (someB l)) ∧ w' = w := by
  have hcall := indexF_walk A n c l w hR hn
  go_enter Tryz.func68, Tryz.ntmps68
  go_wp2_with fail
  refine Calls.mono hcall ?_
  rintro e w' ⟨⟨k, rfl, hk⟩, rfl⟩
  go_wp2
  go_ret
  exact ⟨by rw [← hk]; first | rfl | (simp; done), rfl⟩
end Go.Proofs.YtipdmhppadapkaaGreatDoor
/-
  Walks: maps.Keys of the pages, and its iterator.
-/
namespace Go.Proofs.YtipdmhppadapkaaGreatDoor
open Go.RowKit Go.Shelf
open Go.Maps (Keyed)

attribute [local go_sem] Oper.semAt_some

abbrev MT := 121
def litU (k : Nat) : Lit := .int .u64 (k : Int)
/-- a key -/
abbrev Ku := { x : Nat // x < 18446744073709551616 }
abbrev kEncs (x : Ku) : Array Value := #[.int .u64 ((x.1 : Nat) : Int)]
theorem keyU_inv {key : Value} {kl : Lit} (h : keyOf Tryz.prog 24 key = some kl) : ∃ x : Ku, key = .int .u64 ((x.1 : Nat) : Int) ∧ kl = litU x.1 := by
  obtain ⟨x, rfl, rfl, hw⟩ := Maps.keyOf_int_inv Tryz.underlying24 h
  simp [Lit.wf, IntKind.min, IntKind.max, IntKind.bits, IntKind.signed] at hw
  have e : ((x.toNat : Nat) : Int) = x := by omega
  refine ⟨⟨x.toNat, by omega⟩, ?_, ?_⟩
  · show Value.int .u64 x = Value.int .u64 ((x.toNat : Nat) : Int)
    rw [e]
  · show Lit.int .u64 x = Lit.int .u64 ((x.toNat : Nat) : Int)
    rw [e]
theorem sameKey_litU (x y : Nat) : (litU x).sameKey (litU y) = decide (x = y) := by
  by_cases h : x = y
  · subst h; simp [litU, Lit.sameKey]
  · rw [Maps.sameKey_ne (fun e => h (by unfold litU at e; injection e with _ e; omega))]; simp [h]
/-- the keys that have come -/
structure GotU (D0 : DataW Unit) (left : Lit → Bool) (ss : List Ku) : Prop where
  nodup : ss.Nodup
  all : ∀ k : Ku, Maps.has D0 (litU k.1) = true → left (litU k.1) = true ∨ k ∈ ss
  gone : ∀ k ∈ ss, left (litU k.1) = false
theorem GotU.start (D0 : DataW Unit) : GotU D0 (Maps.has D0) [] := ⟨List.nodup_nil, fun k h => .inl h, fun k h => by cases h⟩
theorem GotU.step {D0 : DataW Unit} {left : Lit → Bool} {ss : List Ku} (h : GotU D0 left ss) {x : Ku} (hl : left (litU x.1) = true) : GotU D0 (fun z => left z && !z.sameKey (litU x.1)) (ss ++ [x]) := by
  have hx : x ∉ ss := fun hm => by rw [h.gone x hm] at hl; cases hl
  refine ⟨List.nodup_append.2 ⟨h.nodup, by simp, fun a ha b hb => by rw [List.mem_singleton] at hb; subst hb; exact fun e => hx (e ▸ ha)⟩, fun k hk => ?_, fun k hk => ?_⟩
  · by_cases e : k = x
    · exact .inr (by simp [e])
    · rcases h.all k hk with h1 | h1
      · refine .inl ?_
        have : ¬ k.1 = x.1 := fun e2 => e (Subtype.ext e2)
        show (left (litU k.1) && !(litU k.1).sameKey (litU x.1)) = true
        rw [sameKey_litU, h1]; simp [this]
      · exact .inr (by simp [h1])
  · show (left (litU k.1) && !(litU k.1).sameKey (litU x.1)) = false
    rcases List.mem_append.1 hk with h1 | h1
    · rw [h.gone k h1]; rfl
    · rw [List.mem_singleton.1 h1, sameKey_litU]; simp
/-- all keys, each once -/
def AllU (D0 : DataW Unit) (ss : List Ku) : Prop := ss.Nodup ∧ (∀ k : Ku, Maps.has D0 (litU k.1) = true → k ∈ ss) ∧ ss.length ≤ 1000000

set_option maxRecDepth 100000 in
set_option maxHeartbeats 2000000 in
theorem keysU1_in (n l Bm b nn : Nat) (hn : 1 ≤ n) (D0 : DataW Unit) (J Jx : List Ku → World → Prop) (W : World) (hJ : AbidesFrom W.heap.size J)
    (hY : ∀ pre x W, J pre W → pre.length < 1000000 → YieldAt Fence.wide (n - 1) Tryz.prog l (kEncs x) W fun e W' => (e = .returned (.bool true) ∧ J (pre ++ [x]) W' ∧ KeepsWalks W W') ∨ (e = .returned (.bool false) ∧ Jx (pre ++ [x]) W'))
    (hm : Blk W Bm MT #[.map (some b)]) (hown : W.ownsMap Tryz.prog 24 pgE b nn D0) (hnn : nn ≤ 1000000) (h0 : J [] W) :
    CallsIn Fence.wide n Tryz.prog 105 #[.func (.yield l) #[] #[], .pointer (some ⟨Bm, 0, none⟩)] W fun e W' => (∃ v, e = .returned v) ∧ ((∃ ss, AllU D0 ss ∧ J ss W') ∨ (∃ pre, True ∧ Jx pre W')) := by
  have hmc : W.cell? ⟨Bm, 0, none⟩ = some (.map (some b)) := (hm.cell 0).trans rfl
  refine callsIn_of_wp Tryz.func105 rfl trivial ?_ rfl
  simp only [Tryz.ntmps105, List.size_toArray, List.length_cons, List.length_nil, Nat.reduceAdd, Nat.reduceSub, Array.replicate_succ, Array.replicate_zero, List.push_toArray, List.append_toArray, List.nil_append, List.cons_append]
  gi_wp2_with (first
    | (gi_at_range; refine wpListIn_range_own _ rfl _ MT rfl 24 22 keyU Tryz.underlying121 _ b nn _ rfl hown ?_; intro w0 hrg0 hg0 hs0)
    | gi_in)
  go_frame
  gi_loopw [3] (fun _ wr => ∃ (left : Lit → Bool) (cnt : Nat) (ss : List Ku), wr.ranges Tryz.prog 24 pgE b W.heap.size nn D0 left cnt ∧ GotU D0 left ss ∧ ss.length + cnt ≤ nn ∧ J ss wr)
    (fun _ wr => wr.rangeLeft b W.heap.size)
  case atStart => exact ⟨_, _, [], hrg0, GotU.start D0, by simpa using hown.size_le, hJ [] W w0 none h0 hg0 (fun r e => by cases e)⟩
  case round =>
    obtain ⟨left, cnt, ss, hrg, hC, hlen, hJs⟩ := hrel
    gi_wp2_with (first
      | (gi_at_next; refine wpListIn_next_ranges _ rfl _ rfl 24 keyU pgE (fun x : Ku => Value.int .u64 ((x.1 : Nat) : Int)) id (fun key kl hk => by obtain ⟨x, hx, _⟩ := keyU_inv hk; exact ⟨x, hx⟩) (fun v _ _ => ⟨v, rfl⟩) b W.heap.size nn _ _ _ rfl hrg ?_ ?_)
      | gi_in)
    · intro hc0 hl0
      gi_wp2
      go_end0
      exact ⟨⟨_, rfl⟩, .inl ⟨ss, ⟨hC.nodup, fun k hk => (hC.all k hk).resolve_left (by rw [hl0]; simp), by omega⟩, hJs⟩⟩
    · intro xn hxn c kl yd yp w2 cnt2 hkey hlk hv hat hrg2 hlt hg2 hs2 hen
      obtain ⟨x, hxx⟩ : ∃ x : Ku, x = ⟨xn, hxn⟩ := ⟨_, rfl⟩
      obtain ⟨x', ex, rfl⟩ := keyU_inv hkey
      have exx : x = x' := by
        injection ex with _ ex
        rw [hxx]
        exact Subtype.ext (by show xn = x'.1; omega)
      subst exx
      have hxv : x.1 = xn := by rw [hxx]
      have hJ2 : J ss w2 := hJ ss wr w2 (some W.heap.size) hJs hg2 (fun r e => by cases e; exact ⟨Nat.le_refl _, hrg.iter_walk⟩)
      have hyy := hY ss x w2 hJ2 (by omega)
      have hlen2 : (ss ++ [x]).length + cnt2 ≤ nn := by rw [List.length_append]; simp only [List.length_cons, List.length_nil]; omega
      have henc : kEncs x = #[.int .u64 ((xn : Nat) : Int)] := by rw [← hxv]
      rw [henc] at hyy
      obtain ⟨fn, tmps, assign, body, hy, hR⟩ := hyy
      have HL := Lib.hid hlk
      clear hs2 hlk hat hv hkey henc hxv ex hxx hxn
      gi_wp2
      refine hR.mono ?_
      rintro e W3 (⟨rfl, hJ3, hk3⟩ | ⟨rfl, hJx3⟩)
      · gi_wp2
        have hrg3 := hrg2.of_walks hk3
        go_roundw
        case rel => exact ⟨_, cnt2, ss ++ [x], hrg3, hC.step HL.out, hlen2, hJ3⟩
        case measure => rw [hrg3.left_eq, hrg.left_eq]; exact hlt
      · gi_wp2
        refine bodyPost_ret (results_none rfl _ _ _) rfl ?_
        exact ⟨⟨_, rfl⟩, .inr ⟨_, trivial, hJx3⟩⟩
theorem keysU_stops (Bm b nn : Nat) (D0 : DataW Unit) (w : World) (hm : Blk w Bm MT #[.map (some b)]) (hown : w.ownsMap Tryz.prog 24 pgE b nn D0) (hnn : nn ≤ 1000000) :
    SeqStopsK Fence.wide 5 Tryz.prog 105 #[.pointer (some ⟨Bm, 0, none⟩)] kEncs KeepsWalks (AllU D0) (fun _ => True) 1000000 w := fun l Jv Jx W hW hA _ hY h0 =>
  keysU1_in 5 l Bm b nn (by omega) D0 Jv Jx W hA hY (hm.below hW hm.lt) (by
    obtain ⟨es, clock, h1, h2⟩ := hown
    exact ⟨es, clock, (hW.block b (Array.getElem?_eq_some_iff.1 h1).1).trans h1, h2⟩) hnn h0

set_option maxRecDepth 100000 in
set_option maxHeartbeats 400000 in
theorem keysU_any (b : Nat) (w : World) :
    Calls Tryz.prog 67 #[.map (some b)] w fun e w' => e = .returned (.func (.func 105) #[] #[.pointer (some ⟨w.heap.size, 0, none⟩)]) ∧ w' = w.alloc (.cells #[.map (some b)] MT) := by
  go_enter Tryz.func67, Tryz.ntmps67
  go_wp2
  go_ret
  exact ⟨rfl, rfl⟩
end Go.Proofs.YtipdmhppadapkaaGreatDoor
/-
  Walks: slices.AppendSeq, Collect, Sorted at uint64, over the keys of the pages.
-/
namespace Go.Proofs.YtipdmhppadapkaaGreatDoor
open Go.RowKit Go.Shelf

attribute [local go_sem] Oper.semAt_some

section
variable {F : Fence} {n : Nat} {P : Program} {ops : Array Oper} {rest : List Oper} {a : Act} {w : World} {Q : Exit → Act → World → Prop} {dst : Option Tmp} {ty : TypeId} {pos : String} {aft : Array Edge} {gd : Option (Nat × Bool)}
theorem sIn_append (t : TypeId) {x c : Operand} (h : wpListIn F n P ops Q (⟨dst, .call { callee := .builtin .append, args := #[x, c], argTypes := #[t, t] }, ty, pos, aft, gd⟩ :: rest) a w) :
    wpListIn F n P ops Q (⟨dst, .call { callee := .builtin .append, args := #[x, c], argTypes := #[t, t] }, ty, pos, aft, gd⟩ :: rest) a w := h
end
theorem own_isSlice {w : World} {base n : Nat} {e : TypeId} {v : Value} {xs : List Value} (h : w.ownsRow base e 1 v n xs) : ∃ A c, v = .slice A n c := by
  rcases h.2 with ⟨rfl, h2⟩ | ⟨g, cap, cur, rfl, _⟩
  · have h1 := h.1
    have : n = 0 := by
      first
      | omega
      | (rw [h2] at h1; simpa using h1.symm)
      | (have := h.1; simp_all)
    exact ⟨none, 0, by rw [this]⟩
  · exact ⟨_, _, rfl⟩
theorem own_keptS {w w' : World} {base size n : Nat} {e : TypeId} {v : Value} {xs : List Value} {row : Option Nat} (h : w.ownsRow base e size v n xs) (hg : w.grownBy w' row) (hr : ∀ r, row = some r → ∃ o : Obj, w.heap[r]? = some o ∧ o.isCells = false) : w'.ownsRow base e size v n xs :=
  own_chg h (Chg.grown (Z := fun k => row = some k) hg (fun k e => e)) fun k hv hz => by
    obtain ⟨o, ho, hc⟩ := hr k hz
    rcases h.2 with ⟨rfl, _⟩ | ⟨g, cap, cur, rfl, _, hh, _⟩
    · cases hv
    · cases hv
      rw [hh] at ho
      cases ho; cases hc
theorem blk_keptS {w w' : World} {g : Nat} {t : TypeId} {cs : Array Value} {row : Option Nat} (h : Blk w g t cs) (hg : w.grownBy w' row) (hr : ∀ r, row = some r → ∃ o : Obj, w.heap[r]? = some o ∧ o.isCells = false) : Blk w' g t cs :=
  h.grown hg (fun e => by
    obtain ⟨o, h1, h2⟩ := hr g e.symm
    rw [show w.heap[g]? = some (.cells cs t (0, 0)) from h] at h1; cases h1; cases h2)
theorem own_cellsS {w : World} {base size n : Nat} {e : TypeId} {v : Value} {xs : List Value} (h : w.ownsRow base e size v n xs) {b : Nat} {o : Obj} (hb : v.ownBlock = some b) (ho : w.heap[b]? = some o) : o.isCells = true := by
  rcases h.2 with ⟨rfl, _⟩ | ⟨g, cap, cur, rfl, _, hh, _⟩
  · cases hb
  · cases hb
    rw [hh] at ho
    cases ho; rfl
theorem elU64 : Elem Tryz.prog 74 24 (.int .u64 0) 1 8 := Elem.of (by kernel_rfl) (by kernel_rfl) rfl (by omega)
def kcells (ss : List Ku) : List Value := ucells (ss.map (·.1))
theorem kcells_snoc (ss : List Ku) (x : Ku) : kcells (ss ++ [x]) = kcells ss ++ [.int .u64 ((x.1 : Nat) : Int)] := by simp [kcells, ucells]

/-- the caller's own cells between two rounds -/
structure ApI (w : World) (pre : List Ku) (W : World) : Prop where
  S : ∃ A c, Blk W w.heap.size 74 #[.slice A pre.length c] ∧ W.ownsRow (w.heap.size + 1) 24 1 (.slice A pre.length c) pre.length (kcells pre)
  B : Below w.heap.size w W

set_option maxRecDepth 100000 in
set_option maxHeartbeats 4000000 in
theorem appendSeq_any (Bm b nn : Nat) (D0 : DataW Unit) (w : World) (hm : Blk w Bm MT #[.map (some b)]) (hown : w.ownsMap Tryz.prog 24 pgE b nn D0) (hnn : nn ≤ 1000000) :
    Calls Tryz.prog 135 #[.slice none 0 0, .func (.func 105) #[] #[.pointer (some ⟨Bm, 0, none⟩)]] w fun e w' =>
      ∃ ss v, AllU D0 ss ∧ e = .returned v ∧ w'.ownsRow (w.heap.size + 1) 24 1 v ss.length (kcells ss) ∧ Below w.heap.size w w' := by
  obtain ⟨W1, hW1⟩ : ∃ W1, w.alloc (.cells #[.slice none 0 0] 74) = W1 := ⟨_, rfl⟩
  have hs1 : W1.heap.size = w.heap.size + 1 := by rw [← hW1]; simp
  have hb1 : Blk W1 w.heap.size 74 #[.slice none 0 0] := by rw [← hW1]; exact Blk.new _ _ _
  have hB1 : Below w.heap.size w W1 := by rw [← hW1]; exact (Below.refl _ _).alloc (Nat.le_refl _) _
  have hstop := keysU_stops Bm b nn D0 W1 (hm.below hB1 hm.lt) (by
    obtain ⟨es, clock, h1, h2⟩ := hown
    exact ⟨es, clock, (hB1.block b (Array.getElem?_eq_some_iff.1 h1).1).trans h1, h2⟩) hnn
  refine (callsIn_wide (n := 6)).1 ?_
  refine callsIn_of_wp_marks Tryz.func135 rfl trivial ?_ rfl
  simp only [Tryz.ntmps135, List.size_toArray, List.length_cons, List.length_nil, Nat.reduceAdd, Nat.reduceSub, Array.replicate_succ, Array.replicate_zero, List.push_toArray, List.append_toArray, List.nil_append, List.cons_append]
  gi_wp2_with fail
  try rw [hW1]
  clear hW1 hown
  refine wpIn_rangeFunc_ownF rfl (by omega) (gf := 105) (lb := #[.pointer (some ⟨Bm, 0, none⟩)]) rfl trivial (enters_of Tryz.func105 (by kernel_rfl) rfl)
    hstop walksK_t (walksK_b (w := W1)) (Below.refl _ _) (fun _ => rfl)
    (ApI w) (fun _ _ _ => False)
    (fun s A B row hs hg hr => by
      obtain ⟨⟨A1, c1, h1, h2⟩, h3⟩ := hs
      have hr2 : ∀ r, row = some r → ∃ o : Obj, A.heap[r]? = some o ∧ o.isCells = false := fun r e => (hr r e).2
      exact ⟨⟨A1, c1, blk_keptS h1 hg hr2, own_keptS h2 hg hr2⟩, h3.grown hg h3.size (fun r e => by have := (hr r e).1; omega)⟩)
    (fun _ _ _ _ _ hs _ _ => hs)
    ⟨⟨none, 0, hb1, World.ownsRow_nil _ _ _ _⟩, hB1⟩
    (fun x => { tmps := #[.slice none 0 0, .func (.func 105) #[] #[.pointer (some ⟨Bm, 0, none⟩)], .pointer (some ⟨w.heap.size, 0, none⟩), undef, .slice none 0 0, .int .u64 ((x.1 : Nat) : Int), .func (.func 105) #[] #[.pointer (some ⟨Bm, 0, none⟩)], .int .u64 ((x.1 : Nat) : Int), undef, undef, undef, undef, undef], defers := [] }) ?assign ?body ?done ?stop
  case assign =>
    intro l x W K hK
    gi_wp2
    exact hK
  case body =>
    rintro l pre x W ⟨⟨A, c, hS, hO⟩, hB⟩ hlen
    have hcell : W.cell? ⟨w.heap.size, 0, none⟩ = some (.slice A pre.length c) := (hS.cell 0).trans rfl
    obtain ⟨i, hi2, hi3, hi4, hi5⟩ := elU64.info
    have hszW := hS.lt
    have hO1 := own_chg hO (Chg.of_ext ((Ext.refl W).alloc (.cells #[.int .u64 ((x.1 : Nat) : Int)] 24))) (fun _ _ => id)
    have hS1 := hS.alloc (.cells #[.int .u64 ((x.1 : Nat) : Int)] 24)
    have hN1 := Blk.new W 24 #[.int .u64 ((x.1 : Nat) : Int)]
    have hob : ∀ r, (Value.slice A pre.length c).ownBlock = some r → w.heap.size + 1 ≤ r ∧ r < W.heap.size := fun r hr => hO.lt r hr
    have hB1' : Below w.heap.size w (W.alloc (.cells #[.int .u64 ((x.1 : Nat) : Int)] 24)) := hB.alloc hB.size _
    gi_wp2_with ((with_reducible refine sIn_append 74 ?_); refine wpListIn_append_own _ rfl _ _ _ rfl (w.heap.size + 1) 24 i (.int .u64 0) 1 8 elU64.under hi2 hi3 hi4 hi5 rfl (by omega) (.slice A pre.length c) pre.length (kcells pre) rfl hO1 ⟨W.heap.size, 0, none⟩ 1 1 [.int .u64 ((x.1 : Nat) : Int)] rfl rfl (fun j u hj => by match j, hj with | 0, hj => exact (hN1.cell 0).trans hj | _ + 1, hj => cases hj) (fun u hu => by rw [List.mem_singleton.1 hu]; rfl) (by simp only [maxLen]; omega) (by omega) (by simp; omega) ?_; intro v' w3 hO3 hg3 hnil; obtain ⟨A', c', rfl⟩ := own_isSlice hO3; have hS3 := hS1.grown hg3 (fun e => by have := (hob _ e.symm).1; omega); have hcell3 : w3.cell? ⟨w.heap.size, 0, none⟩ = some (.slice A pre.length c) := (hS3.cell 0).trans rfl; have hfr3 := hS3.frozen 0)
    have hob3 : ∀ r, (Value.slice A' (pre.length + 1) c').ownBlock = some r → w.heap.size + 1 ≤ r := fun r hr => (hO3.lt r hr).1
    have hK : KeepsOthers W (w3.setCell ⟨w.heap.size, 0, none⟩ (.slice A' (pre.length + 1) c')) :=
      ((KeepsOthers.alloc W _).trans (KeepsOthers.of_grownBy hg3 (fun j o hj ho => own_cellsS hO1 hj ho))).trans (KeepsOthers.setCell _ _ _)
    have hB3 : Below w.heap.size w w3 := hB1'.grown hg3 hB1'.size (fun r e => by have := (hob r e).1; omega)
    have hlen1 : (pre ++ [x]).length = pre.length + 1 := by simp
    refine ⟨hK, hK.walks, ⟨A', c', ?_, ?_⟩, grown_below hB3 (s_grown _ _ _ _) hB3.size (Nat.le_refl _)⟩
    · rw [hlen1]; exact hS3.set_ 0 _
    · rw [hlen1, kcells_snoc]
      exact own_chg hO3 (Chg.grown (Z := fun b => b = w.heap.size) (s_grown _ _ _ _) (by rintro j h; cases h; rfl)) (fun r hr e => by have := hob3 r hr; omega)
  case done =>
    rintro D ys W hD hS ⟨⟨A, c, hSb, hO⟩, hB⟩ hK
    have hcell : W.cell? ⟨w.heap.size, 0, none⟩ = some (.slice A ys.length c) := (hSb.cell 0).trans rfl
    have hg4 := grownBy_putObj' W D (.deferred none)
    have hO4 := own_keptS hO hg4 (fun r e => by cases e; exact ⟨_, hK, rfl⟩)
    have hB4 : Below w.heap.size w (W.putObj D (.deferred none)) := grown_below hB hg4 hB.size (by omega)
    gi_wp2
    refine ⟨by simp, .inl ⟨_, _, rfl, run_takeDeferred hK, ?_⟩⟩
    exact ⟨_, results_tmp rfl _ _ _, ys, .slice A ys.length c, hS, rfl, hO4, hB4⟩
  case stop =>
    rintro D c pre W _ _ h _
    exact h.elim

set_option maxRecDepth 100000 in
set_option maxHeartbeats 1000000 in
theorem collect_any (Bm b nn : Nat) (D0 : DataW Unit) (w : World) (hm : Blk w Bm MT #[.map (some b)]) (hown : w.ownsMap Tryz.prog 24 pgE b nn D0) (hnn : nn ≤ 1000000) :
    Calls Tryz.prog 103 #[.func (.func 105) #[] #[.pointer (some ⟨Bm, 0, none⟩)]] w fun e w' =>
      ∃ ss v, AllU D0 ss ∧ e = .returned v ∧ w'.ownsRow (w.heap.size + 1) 24 1 v ss.length (kcells ss) ∧ Below w.heap.size w w' := by
  have hc := appendSeq_any Bm b nn D0 w hm hown hnn
  go_enter Tryz.func103, Tryz.ntmps103
  go_wp2_with fail
  refine Calls.mono hc ?_
  rintro e W1 ⟨ss, v, hS, rfl, hO, hB⟩
  obtain ⟨A, c, rfl⟩ := own_isSlice hO
  clear hc hown
  go_wp2
  go_ret
  exact ⟨ss, _, hS, rfl, hO, hB⟩
theorem nr_rd {w : World} {g : Nat} {d : Array Nat} {R : List Value} (h : NR w g d R) : Rd w w.heap.size 1 (some ⟨g, 0, none⟩) d.toList.length (ucells d.toList) := by
  refine ⟨by rw [ucells_length]; simp, fun k v hv => ⟨_, rfl, Blk.lt h, ?_⟩⟩
  have h2 : Blk w g 24 (ucells d.toList ++ R).toArray := h
  have hk : k < (ucells d.toList).length := (List.getElem?_eq_some_iff.1 hv).1
  rw [show (Addr.mk g 0 none).add k = ⟨g, k, none⟩ by (rw [Addr.add]; split <;> simp_all), h2.cell, List.getElem?_toArray, List.getElem?_append_left hk, hv]
/-- all keys, in order -/
def SortedU (D0 : DataW Unit) (xs : List Nat) : Prop := xs.Pairwise (fun x y => x < y) ∧ (∀ x ∈ xs, x < 18446744073709551616) ∧ ∀ k : Ku, Maps.has D0 (litU k.1) = true → k.1 ∈ xs
theorem sortedU_of {D0 : DataW Unit} {ss : List Ku} {d : Array Nat} (hS : AllU D0 ss) (hp : Sort.PermIn 0 ss.length (ss.map (·.1)).toArray d) (hs : Sort.SortedIn ltN 0 ss.length d) : SortedU D0 d.toList ∧ d.toList.length = ss.length := by
  have hsz : d.size = ss.length := by rw [hp.1]; simp
  have hperm : d.toList.Perm (ss.map (·.1)) := by
    have h1 := hp.2.2
    have e1 : d.extract 0 ss.length = d := by rw [← hsz]; simp
    have e2 : (ss.map (·.1)).toArray.extract 0 ss.length = (ss.map (·.1)).toArray := by
      have : ss.length = (ss.map (·.1)).toArray.size := by simp
      rw [this]; simp [List.take_of_length_le]
    rw [e1, e2] at h1
    simpa using h1
  have hnd : d.toList.Nodup := hperm.nodup_iff.2 (by
    rw [List.Nodup, List.pairwise_map]
    exact hS.1.imp fun h e => h (Subtype.ext e))
  refine ⟨⟨?_, fun x hx => ?_, fun k hk => ?_⟩, by simp [hsz]⟩
  · rw [List.pairwise_iff_getElem]
    intro i j hi hj hij
    have hi' : i < d.size := by simpa using hi
    have hj' : j < d.size := by simpa using hj
    have h1 := hs i j (by omega) hij (by omega)
    have h2 : d.toList[i] ≠ d.toList[j] := by
      have := (List.pairwise_iff_getElem.1 hnd) i j hi hj hij
      exact this
    simp only [ltN, decide_eq_false_iff_not] at h1
    simp only [Array.getElem_toList] at h2 ⊢
    rw [getElem!_pos d i hi', getElem!_pos d j hj'] at h1
    omega
  · have := hperm.mem_iff.1 hx
    obtain ⟨k, _, rfl⟩ := List.mem_map.1 this
    exact k.2
  · exact hperm.mem_iff.2 (List.mem_map.2 ⟨k, hS.2.1 k hk, rfl⟩)

set_option maxRecDepth 100000 in
set_option maxHeartbeats 1000000 in
theorem sorted_any (Bm b nn : Nat) (D0 : DataW Unit) (w : World) (hm : Blk w Bm MT #[.map (some b)]) (hown : w.ownsMap Tryz.prog 24 pgE b nn D0) (hnn : nn ≤ 1000000) :
    Calls Tryz.prog 66 #[.func (.func 105) #[] #[.pointer (some ⟨Bm, 0, none⟩)]] w fun e w' =>
      ∃ xs A c, SortedU D0 xs ∧ e = .returned (.slice A xs.length c) ∧ Rd w' w'.heap.size 1 A xs.length (ucells xs) ∧ Below w.heap.size w w' ∧ xs.length ≤ 1000000 := by
  have hc := collect_any Bm b nn D0 w hm hown hnn
  go_enter Tryz.func66, Tryz.ntmps66
  go_wp2_with fail
  refine Calls.mono hc ?_
  rintro e W1 ⟨ss, v, hS, rfl, hO, hB⟩
  clear hc hown
  by_cases h0 : ss.length = 0
  · obtain ⟨A, c, rfl⟩ := own_isSlice hO
    obtain rfl := List.length_eq_zero_iff.1 h0
    have hcall := sortNil_walk A c W1
    clear hO
    go_wp2_with fail
    refine Calls.mono hcall ?_
    rintro e W2 ⟨rfl, rfl⟩
    clear hcall
    go_wp2
    go_ret
    exact ⟨[], A, c, ⟨List.Pairwise.nil, (fun x hx => absurd hx (by simp)), fun k hk => absurd (hS.2.1 k hk) (by simp)⟩, rfl, Rd.nil _ _ _ _, hB, by simp⟩
  · obtain ⟨g, cap, R, rfl, hg, hN⟩ : ∃ g cap R, v = .slice (some ⟨g, 0, none⟩) ss.length cap ∧ w.heap.size + 1 ≤ g ∧ NR W1 g (ss.map (·.1)).toArray R := by
      rcases hO.2 with ⟨_, h2⟩ | ⟨g, cap, cur, hv, h1, h2, _, _, _, h6⟩
      · exact absurd h2 h0
      · refine ⟨g, cap, cur.toList.drop (ss.length * 1), hv, h1, ?_⟩
        show W1.heap[g]? = some (.cells _ _ _)
        rw [h2, show ucells (ss.map (·.1)).toArray.toList = cur.toList.take (ss.length * 1) from h6.symm, List.take_append_drop]
    have hcall := sort_walk g R (ss.map (·.1)).toArray ss.length cap (by simp) (by omega) hS.2.2 W1 hN
    clear hO
    go_wp2_with fail
    refine Calls.mono hcall ?_
    rintro e W2 ⟨rfl, d, ⟨hp, hs⟩, hN2, hC⟩
    obtain ⟨hso, hl⟩ := sortedU_of hS hp hs
    have hlt := Blk.lt hN2
    have hrd := nr_rd hN2
    have hB2 := hB.trans (Chg.below hC (n := w.heap.size) (fun k e => by have e2 : k = g := e; omega) hB.size)
    clear hcall hp hs hN hN2
    go_wp2
    go_ret
    exact ⟨d.toList, some ⟨g, 0, none⟩, cap, hso, by rw [hl]; rfl, hrd, hB2, by rw [hl]; exact hS.2.2⟩
end Go.Proofs.YtipdmhppadapkaaGreatDoor
