/-
  Parts: TailW GeO.
-/
import Derived.Test.YtpellkblaeeopaaGreatDoorC16
import Derived.Test.YtpellkblaeeopaaGreatDoorC23
/-
  The tail law, where an operation of the tail waits for the front over several others.
-/
namespace Go.Proofs.YtpellkblaeeopaaGreatDoor
open Go.RowKit

namespace Reg
section
variable {P : Program} {ops : Array Oper} {Q : Exit → Act → World → Prop} {a0 : Act} {w0 : World}
theorem step_tailW (hs : shape ops a0.tmps.size = true) {m : Nat} (hm : m ≤ ops.size) (hcov : coverW ops m = true) {Ts : List Kd} {al : List Nat} (hlow : ∀ i ∈ al, i < m)
    (hal : ∀ i ∈ al, ∀ o, ops[i]? = some o → ∃ te z, o.guard = none ∧ o.op = .alloc te ∧ (∀ W, (zeroValue te).run P W = .ok (.agg z) W) ∧ Ts[i]? = some (newK te z))
    (hg : ∀ i o, i < m → ops[i]? = some o → ∃ T, Ts[i]? = some T ∧ Good P ops Q a0 w0 (Ts.take i) i o T)
    (hend : ∀ (fuel : Nat) (L : Array Bool) (a : Act) (w : World), FinalM ops m al a0 w0 Ts a w → L.size = ops.size → (∀ j, L.getD j false = decide (j < m)) → ((List.range ops.size).filter fun i => !L.getD i true).length ≤ fuel → wpAny P .any ops Q fuel L a w) :
    ∀ (fuel : Nat) (L : Array Bool) (a : Act) (w : World), J ops a0 w0 Ts L a w → (∀ j, m ≤ j → L.getD j false = false) → Fr ops al w0 L a w → ((List.range ops.size).filter fun i => !L.getD i true).length ≤ fuel → wpAny P .any ops Q fuel L a w := by
  intro fuel
  induction fuel with
  | zero =>
    intro L a w hJ hF hFr hf
    by_cases hall : ∀ j, j < m → L.getD j false = true
    · exact hend 0 L a w ⟨hJ.defers, hJ.tmps, hJ.ext, fun t ht => hJ.old t (fun j hj => hF j (ht j hj)), fun t j hj hjm => hJ.new j (hall j hjm) t hj, fun i hi t ht => by
        obtain ⟨b, h1, h2, h3⟩ := hFr i hi (hall i (hlow i hi)) t ht
        exact ⟨b, h1, h2, fun j hj hji => h3 j hj hji (hall j (hlow j hj))⟩⟩ hJ.size (fun j => by
        rcases Nat.lt_or_ge j m with h | h
        · rw [hall j h]; simp [h]
        · rw [hF j h]; simp; exact h) hf
    · exfalso
      obtain ⟨j, h1, h2, h3⟩ := least hall
      have := mem_count hJ.size (show j < ops.size by omega) h2
      rw [List.eq_nil_of_length_eq_zero (Nat.le_zero.1 hf)] at this
      cases this
  | succ fuel ih =>
    intro L a w hJ hF hFr hf
    by_cases hall : ∀ j, j < m → L.getD j false = true
    · exact hend _ L a w ⟨hJ.defers, hJ.tmps, hJ.ext, fun t ht => hJ.old t (fun j hj => hF j (ht j hj)), fun t j hj hjm => hJ.new j (hall j hjm) t hj, fun i hi t ht => by
        obtain ⟨b, h1, h2, h3⟩ := hFr i hi (hall i (hlow i hi)) t ht
        exact ⟨b, h1, h2, fun j hj hji => h3 j hj hji (hall j (hlow j hj))⟩⟩ hJ.size (fun j => by
        rcases Nat.lt_or_ge j m with h | h
        · rw [hall j h]; simp [h]
        · rw [hF j h]; simp; exact h) hf
    refine ⟨fun hr => ?_, fun i hi => ?_⟩
    · exfalso
      obtain ⟨j, h1, h2, h3⟩ := least hall
      have := not_ready_nil hs hJ.size j (by omega) h2 h3
      rw [hr] at this; cases this
    unfold Region.ready at hi
    rw [List.mem_filter] at hi
    obtain ⟨hir, hib⟩ := hi
    have hi' : i < ops.size := by simpa using hir
    have hiL : i < L.size := by rw [hJ.size]; exact hi'
    rw [Array.getElem?_eq_getElem hi'] at hib
    simp only [Option.map_some, Option.getD_some, Bool.and_eq_true, Bool.not_eq_true'] at hib
    obtain ⟨hiF, hedges⟩ := hib
    have hiF' : L.getD i false = false := by simp [hiL] at hiF ⊢; exact hiF
    have hpre : ∀ e ∈ (ops[i]'hi').after, binds e = true → L.getD e.on false = true := by
      intro e he hb
      have := (Array.all_eq_true'.1 hedges) e he
      simp only [binds] at hb
      simpa [hb] using this
    have him : i < m := by
      rcases Nat.lt_or_ge i m with h | h
      · exact h
      · exfalso
        exact hall fun j hj => coveredW hcov h hi' (by omega) (fun e he hb => hpre e he hb) hJ.closed
    obtain ⟨T, hT, hst, hgood⟩ := hg i _ him (Array.getElem?_eq_getElem hi')
    have hsi := (List.all_eq_true.1 hs) i (by simpa using hi')
    rw [Array.getElem?_eq_getElem hi'] at hsi
    simp only [Option.map_some, Option.getD_some, Bool.and_eq_true] at hsi
    obtain ⟨⟨hlook, hdst⟩, hback⟩ := hsi
    have hstep := hgood a w hJ.ext hJ.defers (by
      intro t ht
      have hl1 := (List.all_eq_true.1 hlook) t ht
      unfold Sees
      cases hw : writer ops t with
      | none => exact hJ.old t (fun j hj => by rw [hw] at hj; cases hj)
      | some j =>
        simp only [hw, Bool.or_eq_true, Bool.and_eq_true, decide_eq_true_eq, beq_iff_eq] at hl1
        simp only []
        split
        · rename_i hji
          rcases hl1 with (⟨_, hb⟩ | ⟨h1, _⟩) | h1
          · simp only [behind, Array.getElem?_eq_getElem hi', Option.map_some, Option.getD_some, Array.any_eq_true', Bool.and_eq_true, beq_iff_eq] at hb
            obtain ⟨e, he, hbe, hon⟩ := hb
            have hLj := hpre e he hbe
            rw [hon] at hLj
            obtain ⟨v, T', h1, h2, h3⟩ := hJ.new j hLj t hw
            refine ⟨v, T', ?_, h2, h3⟩
            rw [List.getElem?_take, if_pos hji]; exact h1
          · omega
          · omega
        · rename_i hji
          refine hJ.old t (fun j' hj' => ?_)
          rw [hw] at hj'; cases hj'
          rcases hl1 with (⟨h1, _⟩ | ⟨_, hb⟩) | h1
          · omega
          · cases hLj : L.getD j false with
            | false => rfl
            | true =>
              exfalso
              have hj := (writer_some hw).1
              simp only [behind, Array.getElem?_eq_getElem hj, Option.map_some, Option.getD_some, Array.any_eq_true', Bool.and_eq_true, beq_iff_eq] at hb
              obtain ⟨e, he, hbe, hon⟩ := hb
              have := hJ.closed j _ hLj (Array.getElem?_eq_getElem hj) e he hbe
              rw [hon, hiF'] at this; cases this
          · rw [h1]; exact hiF')
    have hcount : ((List.range ops.size).filter fun k => !(L.setIfInBounds i true).getD k true).length ≤ fuel := by
      have hlt : ((List.range ops.size).filter fun k => !(L.setIfInBounds i true).getD k true).length < ((List.range ops.size).filter fun k => !L.getD k true).length := by
        have hsub : ((List.range ops.size).filter fun k => !(L.setIfInBounds i true).getD k true) = ((List.range ops.size).filter fun k => !L.getD k true).filter (· != i) := by
          rw [List.filter_filter]
          apply List.filter_congr
          intro k hk
          have hk' : k < ops.size := by simpa using hk
          have hkL : k < L.size := by rw [hJ.size]; exact hk'
          by_cases h : k = i
          · subst h; simp [hkL]
          · simp [h, Array.getElem?_setIfInBounds_ne (Ne.symm h)]
        rw [hsub]
        have hm : i ∈ ((List.range ops.size).filter fun k => !L.getD k true) := by
          rw [List.mem_filter]; exact ⟨hir, by simp [hiF]⟩
        exact List.length_filter_lt_length_iff_exists.2 ⟨i, hm, by simp⟩
      omega
    have hJ' : ∀ v w', Ext w w' → T v w' → J ops a0 w0 Ts (L.setIfInBounds i true) (a.put (ops[i]'hi').dst v) w' := by
      intro v w' hE hTv
      refine ⟨by simpa using hJ.size, ?_, ?_, ?_, hJ.ext.trans hE, ?_, ?_⟩
      · intro j o hj ho e he hb
        rw [getD_set _ _ _ hiL] at hj ⊢
        split
        · rfl
        · split at hj
          · rename_i _ hji
            subst hji
            rw [Array.getElem?_eq_getElem hi'] at ho; cases ho
            exact hpre e he hb
          · exact hJ.closed j o hj ho e he hb
      · cases hd : (ops[i]'hi').dst <;> simpa [Act.put, hd] using hJ.defers
      · cases hd : (ops[i]'hi').dst <;> simpa [Act.put, hd] using hJ.tmps
      · intro t ht
        have hti : (ops[i]'hi').dst ≠ some t := by
          intro hd
          rw [hd] at hdst
          simp only [Bool.and_eq_true, beq_iff_eq] at hdst
          have := ht i hdst.2
          rw [getD_set _ _ _ hiL, if_pos rfl] at this; cases this
        have h1 : (a.put (ops[i]'hi').dst v).tmps[t]? = a.tmps[t]? := by
          cases hd : (ops[i]'hi').dst with
          | none => rfl
          | some d => simp only [Act.put]; exact Array.getElem?_setIfInBounds_ne (fun e => hti (by rw [hd, e]))
        rw [h1]
        refine hJ.old t (fun j hj => ?_)
        have := ht j hj
        rw [getD_set _ _ _ hiL] at this
        split at this
        · cases this
        · exact this
      · intro j hj t ht
        rw [getD_set _ _ _ hiL] at hj
        by_cases hji : j = i
        · subst hji
          have hd := (writer_some ht).2
          rw [Array.getElem?_eq_getElem hi'] at hd
          simp only [Option.bind_some] at hd
          refine ⟨v, T, hT, ?_, hTv⟩
          rw [hd] at hdst ⊢
          simp only [Bool.and_eq_true, decide_eq_true_eq] at hdst
          have : t < a.tmps.size := by rw [hJ.tmps]; exact hdst.1
          simp [Act.put, this]
        · rw [if_neg hji] at hj
          obtain ⟨v', T', h1, h2, h3⟩ := hJ.new j hj t ht
          have hst' : Stable T' := by
            have hjs := (writer_some ht).1
            have hjm : j < m := by
              rcases Nat.lt_or_ge j m with h | h
              · exact h
              · rw [hF j h] at hj; cases hj
            obtain ⟨T'', h4, h5, _⟩ := hg j _ hjm (Array.getElem?_eq_getElem hjs)
            rw [h1] at h4; cases h4; exact h5
          refine ⟨v', T', h1, ?_, hst' _ _ _ h3 hE⟩
          cases hd : (ops[i]'hi').dst with
          | none => exact h2
          | some d =>
            simp only [Act.put]
            rw [Array.getElem?_setIfInBounds_ne]
            · exact h2
            · intro e
              subst e
              rw [hd] at hdst
              simp only [Bool.and_eq_true, beq_iff_eq] at hdst
              rw [hdst.2] at ht; cases ht; exact hji rfl
    have hF' : ∀ j, m ≤ j → (L.setIfInBounds i true).getD j false = false := fun j hj => by
      rw [getD_set _ _ _ hiL, if_neg (by omega)]; exact hF j hj
    unfold wpOp
    rw [Array.getElem?_eq_getElem hi']
    simp only []
    by_cases hial : i ∈ al
    · obtain ⟨te, z, hgd, hop, hz, hTz⟩ := hal i hial _ (Array.getElem?_eq_getElem hi')
      rw [hT] at hTz; cases hTz
      have hw : Region.wanted (ops[i]'hi') (yielded ops a.tmps) = true := by simp [Region.wanted, hgd]
      rw [if_pos hw]
      have hrun : (execOp a.eval (ops[i]'hi')).run P w = .ok (.value (ptr w.heap.size)) (w.alloc (.cells z te)) := by
        simp [execOp, hop, hz, go_sem]
      refine .inl ?_
      unfold Oper.wp
      rw [hrun]
      refine ih _ _ _ (hJ' _ _ ((Ext.refl w).alloc _) ⟨_, rfl, Blk.new _ _ _⟩) hF' ?_ hcount
      have hput : ∀ t, writer ops t = some i → (a.put (ops[i]'hi').dst (ptr w.heap.size)).tmps[t]? = some (ptr w.heap.size) := fun t ht => by
        have hd := (writer_some ht).2
        rw [Array.getElem?_eq_getElem hi'] at hd
        simp only [Option.bind_some] at hd
        rw [hd] at hdst ⊢
        simp only [Bool.and_eq_true, decide_eq_true_eq] at hdst
        have : t < a.tmps.size := by rw [hJ.tmps]; exact hdst.1
        simp [Act.put, this]
      intro k hk hLk t ht
      rw [getD_set _ _ _ hiL] at hLk
      by_cases hki : k = i
      · subst hki
        refine ⟨w.heap.size, hput t ht, ⟨hJ.ext.size, by simp⟩, fun j hj hji hLj t' ht' => ?_⟩
        rw [getD_set _ _ _ hiL, if_neg hji] at hLj
        rw [put_other (a0 := a0) a _ hi' hdst ht' hji]
        obtain ⟨b, h1, h2, _⟩ := hFr j hj hLj t' ht'
        rw [h1]
        intro e
        simp only [Option.some.injEq, Value.pointer.injEq, Addr.mk.injEq, and_true] at e
        omega
      · rw [if_neg hki] at hLk
        obtain ⟨b, h1, h2, h3⟩ := hFr k hk hLk t ht
        refine ⟨b, by rw [put_other (a0 := a0) a _ hi' hdst ht hki]; exact h1, ⟨h2.1, by simp; omega⟩, fun j hj hji hLj t' ht' => ?_⟩
        rw [getD_set _ _ _ hiL] at hLj
        by_cases hj' : j = i
        · subst hj'
          rw [hput t' ht']
          intro e
          simp only [Option.some.injEq, Value.pointer.injEq, Addr.mk.injEq, and_true] at e
          omega
        · rw [if_neg hj'] at hLj
          rw [put_other (a0 := a0) a _ hi' hdst ht' hj']
          exact h3 j hj hji hLj t' ht'
    have hFr' : ∀ v w', Ext w w' → Fr ops al w0 (L.setIfInBounds i true) (a.put (ops[i]'hi').dst v) w' := by
      intro v w' hE k hk hLk t ht
      have hki : k ≠ i := fun e => hial (e ▸ hk)
      rw [getD_set _ _ _ hiL, if_neg hki] at hLk
      obtain ⟨b, h1, h2, h3⟩ := hFr k hk hLk t ht
      refine ⟨b, by rw [put_other (a0 := a0) a _ hi' hdst ht hki]; exact h1, ⟨h2.1, Nat.lt_of_lt_of_le h2.2 hE.size⟩, fun j hj hji hLj t' ht' => ?_⟩
      have hj' : j ≠ i := fun e => hial (e ▸ hj)
      rw [getD_set _ _ _ hiL, if_neg hj'] at hLj
      rw [put_other (a0 := a0) a _ hi' hdst ht' hj']
      exact h3 j hj hji hLj t' ht'
    rcases hstep with ⟨hw, hwp⟩ | ⟨hw, hTu⟩
    · rw [if_pos hw]
      refine .inl (Oper.wp_mono ?_ hwp)
      rintro a' w' ⟨v, rfl, hE, hTv⟩
      exact ih _ _ _ (hJ' v w' hE hTv) hF' (hFr' v w' hE) hcount
    · rw [if_neg (by rw [hw]; simp)]
      exact ih _ _ _ (hJ' undef w (Ext.refl _) hTu) hF' (hFr' undef w (Ext.refl _)) hcount

theorem step_seqW (hs : shape ops a0.tmps.size = true) {m : Nat} (hcov : coverW ops m = true) :
    ∀ (fuel k : Nat) (L : Array Bool) (a : Act) (w : World), m ≤ k → k ≤ ops.size → L.size = ops.size → (∀ j, L.getD j false = decide (j < k)) → wpList P ops Q (ops.toList.drop k) a w →
      ((List.range ops.size).filter fun i => !L.getD i true).length ≤ fuel → wpAny P .any ops Q fuel L a w := by
  intro fuel
  induction fuel with
  | zero =>
    intro k L a w hk1 hk2 hL hd hw hf
    have hk : k = ops.size := by
      rcases Nat.lt_or_ge k ops.size with h | h
      · exfalso
        have := mem_count hL h (by rw [hd]; simp)
        rw [List.eq_nil_of_length_eq_zero (Nat.le_zero.1 hf)] at this
        cases this
      · omega
    subst hk
    rw [List.drop_eq_nil_of_le (by simp)] at hw
    refine ⟨?_, hw⟩
    unfold Region.ready
    apply List.eq_nil_iff_forall_not_mem.2
    intro i hi
    rw [List.mem_filter] at hi
    have hi1 : i < ops.size := by simpa using hi.1
    have hiL : i < L.size := by rw [hL]; exact hi1
    have := hd i
    simp [hiL, hi1] at this hi
    rw [this] at hi; simp at hi
  | succ fuel ih =>
    intro k L a w hk1 hk2 hL hd hw hf
    refine ⟨fun hr => ?_, fun i hi => ?_⟩
    · rcases Nat.lt_or_ge k ops.size with h | h
      · exfalso
        have := not_ready_nil hs hL k h (by rw [hd]; simp) (fun j hj => by rw [hd]; simp [hj])
        rw [hr] at this; cases this
      · obtain rfl : k = ops.size := by omega
        rw [List.drop_eq_nil_of_le (by simp)] at hw
        exact hw
    · unfold Region.ready at hi
      rw [List.mem_filter] at hi
      obtain ⟨hir, hib⟩ := hi
      have hi' : i < ops.size := by simpa using hir
      have hiL : i < L.size := by rw [hL]; exact hi'
      rw [Array.getElem?_eq_getElem hi'] at hib
      simp only [Option.map_some, Option.getD_some, Bool.and_eq_true, Bool.not_eq_true'] at hib
      obtain ⟨hiF, hedges⟩ := hib
      have hiF' : L.getD i false = false := by simp [hiL] at hiF ⊢; exact hiF
      have hpre : ∀ e ∈ (ops[i]'hi').after, binds e = true → L.getD e.on false = true := by
        intro e he hb
        have := (Array.all_eq_true'.1 hedges) e he
        simp only [binds] at hb
        simpa [hb] using this
      have hik : k ≤ i := by
        have := hd i
        rw [hiF'] at this
        simpa using this.symm
      obtain rfl : i = k := by
        rcases Nat.lt_or_ge k i with h | h
        · exfalso
          have hc : L.getD k false = true := coveredW hcov (by omega) hi' h hpre (fun j o hj ho e he hb => by
            have hj' : j < k := by rw [hd] at hj; simpa using hj
            have hjs : j < ops.size := by omega
            rw [Array.getElem?_eq_getElem hjs] at ho; cases ho
            have hsj := (List.all_eq_true.1 hs) j (by simpa using hjs)
            rw [Array.getElem?_eq_getElem hjs] at hsj
            simp only [Option.map_some, Option.getD_some, Bool.and_eq_true] at hsj
            have h2 := (Array.all_eq_true'.1 hsj.2) e he
            simp only [hb, Bool.not_true, Bool.false_or, decide_eq_true_eq] at h2
            rw [hd]; simp; omega)
          rw [hd] at hc; simp at hc
        · omega
      have hlist : ops.toList.drop i = (ops[i]'hi') :: ops.toList.drop (i + 1) := by
        rw [List.drop_eq_getElem_cons (by simpa using hi')]; simp
      rw [hlist] at hw
      have hd' : ∀ j, (L.setIfInBounds i true).getD j false = decide (j < i + 1) := fun j => by
        rw [getD_set _ _ _ hiL, hd]
        by_cases h : j = i
        · simp [h]
        · simp only [if_neg h]; congr 1; apply propext; omega
      have hcount : ((List.range ops.size).filter fun k => !(L.setIfInBounds i true).getD k true).length ≤ fuel := by
        have hlt : ((List.range ops.size).filter fun k => !(L.setIfInBounds i true).getD k true).length < ((List.range ops.size).filter fun k => !L.getD k true).length := by
          have hsub : ((List.range ops.size).filter fun k => !(L.setIfInBounds i true).getD k true) = ((List.range ops.size).filter fun k => !L.getD k true).filter (· != i) := by
            rw [List.filter_filter]
            apply List.filter_congr
            intro k hk
            have hk' : k < ops.size := by simpa using hk
            have hkL : k < L.size := by rw [hL]; exact hk'
            by_cases h : k = i
            · subst h; simp [hkL]
            · simp [h, Array.getElem?_setIfInBounds_ne (Ne.symm h)]
          rw [hsub]
          exact List.length_filter_lt_length_iff_exists.2 ⟨i, mem_count hL hi' hiF', by simp⟩
        omega
      unfold wpOp
      rw [Array.getElem?_eq_getElem hi']
      simp only []
      unfold wpList at hw
      have hnext : ∀ a w, wpList P ops Q (ops.toList.drop (i + 1)) a w → wpAny P .any ops Q fuel (L.setIfInBounds i true) a w :=
        fun a w h => ih (i + 1) _ a w (by omega) (by omega) (by simpa using hL) hd' h hcount
      split at hw
      · rename_i hwant
        rw [if_pos hwant]
        rcases hw with hw | hw
        · exact .inl (Oper.wp_mono (fun a w h => hnext a w h) hw)
        · exact .inr hw
      · rename_i hwant
        rw [if_neg hwant]
        exact hnext _ _ hw

theorem wp_region_tailW {id : Nat} (m : Nat) (al : List Nat) (hlow : al.all (fun i => decide (i < m)) = true) (hmo : P.follows .mixedOrders = true) (hs : shape ops a0.tmps.size = true) (hcov : coverW ops m = true) (hm : decide (m ≤ ops.size) = true)
    (h : PassR P ops Q a0 w0.drew (fun Ts => (∀ i ∈ al, ∀ o, ops[i]? = some o → ∃ te z, o.guard = none ∧ o.op = .alloc te ∧ (∀ W, (zeroValue te).run P W = .ok (.agg z) W) ∧ Ts[i]? = some (newK te z)) ∧ ∀ a w, FinalM ops m al a0 w0.drew Ts a w → wpList P ops Q (ops.toList.drop m) a w) (ops.toList.take m) []) : (Code.region id ops true).wp P Q a0 w0 := by
  have hm' : m ≤ ops.size := of_decide_eq_true hm
  obtain ⟨Ts, hend, hl, hg⟩ := pass_get _ _ (pass_of_R _ _ h)
  simp only [List.reverse_nil, List.nil_append, List.length_nil, Nat.zero_add] at hend hg
  refine wp_region_any hmo (step_tailW hs hm' hcov (fun i hi => of_decide_eq_true (List.all_eq_true.1 hlow i hi)) hend.1 (fun i o him hi => hg i o (by rw [List.getElem?_take, if_pos him]; simpa using hi))
    (fun fuel L a w hF hL hd hf => step_seqW hs hcov fuel m L a w (Nat.le_refl _) hm' hL hd (hend.2 a w hF) hf) _ _ _ _ ⟨by simp, ?_, rfl, rfl, Ext.refl _, fun t _ => rfl, ?_⟩ ?_ ?_ (Nat.le_trans (List.length_filter_le _ _) (by simp)))
  · intro j o hj
    exfalso
    by_cases h : j < ops.size <;> simp [h] at hj
  · intro j hj
    exfalso
    by_cases h : j < ops.size <;> simp [h] at hj
  · intro j _
    by_cases h : j < ops.size <;> simp [h]
  · intro i _ hj
    exfalso
    by_cases h : i < ops.size <;> simp [h] at hj

end
end Reg
end Go.Proofs.YtpellkblaeeopaaGreatDoor
/-
  Walk for awake35: host.Tree.
-/
namespace Go.Proofs.YtpellkblaeeopaaGreatDoor
open Go.RowKit

theorem bd_sp0 {W : World} {b : Nat} {t : TypeId} (h : Blk W b t bdC) : W.rangeAt b 0 (Sp.cells ⟨1073741824, 134217728⟩).toList := by
  intro j v hv
  rw [h.cell]
  match j, hv with
  | 0, hv => exact hv
  | 1, hv => exact hv
theorem bd_sp1 {W : World} {b : Nat} {t : TypeId} (h : Blk W b t bdC) : W.rangeAt b 2 (Sp.cells ⟨1073741824, 1048576⟩).toList := by
  intro j v hv
  rw [h.cell]
  match j, hv with
  | 0, hv => exact hv
  | 1, hv => exact hv
theorem results_cellTE {P : Program} {fn : Func} {p q : Tmp} {ty : TypeId} (h : fn.results = #[.cell p ty, .tmp q]) (tmps : Array Value) (w : World) (g : Nat) (t : TypeId) (cs : Array Value) (fr : Nat × Nat) (d : TypeDesc) (v : Value)
    (hp : tmps.getD p undef = .pointer (some ⟨g, 0, none⟩)) (hq : tmps.getD q undef = v) (hg : w.heap[g]? = some (.cells cs t fr))
    (hu : P.underlying ty = some d) (hd : (match d with | .struct _ | .array _ _ => true | _ => false) = true) (hi : (P.info? ty).map (·.size) = some cs.size) :
    (results fn tmps).run P w = .ok (.tuple #[.agg cs, v]) w := by
  have hp' : tmps[p]?.getD undef = .pointer (some ⟨g, 0, none⟩) := by simpa using hp
  have hq' : tmps[q]?.getD undef = v := by simpa using hq
  simp [results, h, hp', hq', asAddr, run_loadVar_row w g t ty cs fr d hg hu hd hi]
def bd17 : Bd := ⟨⟨1073741824, 134217728⟩, ⟨1073741824, 1048576⟩, 64, 8, 4⟩
theorem bd17_cells : bd17.cells = bdC := by kernel_rfl
theorem bd17_err : bd17.err = 0 := by decide +kernel
theorem bd17_ok : bd17.ok := ⟨⟨by decide, by decide⟩, ⟨by decide, by decide⟩, by decide, by decide, by decide⟩
set_option maxRecDepth 100000 in
set_option maxHeartbeats 4000000 in
theorem tree_any (w : World) : Calls Tryz.prog 15 #[.agg bdC] w fun e w' => (∃ tc : Array Value, e = .returned (.tuple #[.agg tc, .int .i64 0]) ∧ tc.size = 3 ∧ (∀ v ∈ tc.toList, v.oneCell' = true)) ∧ Below w.heap.size w w' := by
  have hfit : ∀ W, Calls Tryz.prog 42 #[.agg bdC] W fun e w' => e = .returned (.int .i64 0) ∧ Below W.heap.size W w' := fun W => by
    have := mfit_any bd17 bd17_ok W
    rwa [bd17_cells, bd17_err] at this
  go_enter Tryz.func15, Tryz.ntmps15
  go_wp2_with (first
    | ((with_reducible refine at_box 50 ?_); refine wpList_boxO w rfl rfl bdC rfl ?_; intro W1 BB hE1 hl1 hbB1)
    | ((with_reducible refine at_alloc 64 ?_); refine wpList_allocO W1 rfl rfl (.agg zTr) zeroTree ?_; intro W2 BR hE2 hl2 hbR; have hbB2 := hbB1.ext hE2)
    | ((with_reducible refine at_load 50 ?_); refine wpList_loadAll W2 rfl 50 _ rfl BB 50 bdC hbB2 _ rfl Tryz.underlying50 rfl infBd ?_))
  refine (hfit W2).mono ?_
  rintro e W3 ⟨rfl, hB3⟩
  have hbB := hbB2.ext hB3
  have hbR3 := hbR.ext hB3
  have hE3 : Ext w W3 := (hE1.trans hE2).trans hB3
  clear hfit hbB1 hbB2 hbR
  go_wp2_with fail
  refine Reg.wp_region_tail 14 [13] (by kernel_rfl) (by kernel_rfl) (by kernel_rfl) (by kernel_rfl) (by kernel_rfl) ?_
  refine Reg.pass_step (prpK) (stable_prp) (Reg.met_none rfl) (fun a W hE hS => ?_) ?_
  · refine Reg.wp_call rfl Tryz.func44 rfl (by kernel_rfl) (by simp [Act.eval, strVE]) (said_any [99, 111, 109, 112, 97, 116, 105, 98, 108, 101] [112, 111, 114, 116, 114, 101, 101, 118, 101, 44, 104, 111, 115, 116] (by decide) W) ?_
    rintro e w' ⟨⟨v, rfl, hv⟩, hB⟩
    exact ⟨_, rfl, _, rfl, hB, hv⟩
  refine Reg.pass_val (.pointer (some ⟨BB, 4, none⟩)) (Reg.met_none rfl) (fun a W hE hS => ?_) ?_
  · have e0 := Reg.see_old 1 hS (by kernel_rfl) (by kernel_rfl) rfl
    go_simp; first | done | rfl
  refine Reg.pass_val (.int .i64 64) (Reg.met_none rfl) (fun a W hE hS => ?_) ?_
  · have e0 := Reg.see_new 15 1 hS (by kernel_rfl) (by kernel_rfl) rfl rfl
    have cc : World.cell? W ⟨BB, 4, none⟩ = some (.int .i64 64) := ((hbB.drew.ext hE).cell 4).trans rfl; go_simp; first | done | rfl
  refine Reg.pass_val (.int .u32 64) (Reg.met_none rfl) (fun a W hE hS => ?_) ?_
  · have e0 := Reg.see_new 16 2 hS (by kernel_rfl) (by kernel_rfl) rfl rfl
    go_simp; first | done | rfl
  refine Reg.pass_step (intK 51 #[.int .u32 64] 1) (stable_int _ _ _) (Reg.met_none rfl) (fun a W hE hS => ?_) ?_
  · have e0 := Reg.see_new 17 3 hS (by kernel_rfl) (by kernel_rfl) rfl rfl
    refine wp_runR (Flow.reg_buildSlice _ rfl (by simp [Act.eval, e0]) (run_n1 elU32 W 64)) ?_
    exact ⟨_, rfl, (Ext.refl W).alloc _, W.heap.size, rfl, Blk.new _ _ _⟩
  refine Reg.pass_step (prpK) (stable_prp) (Reg.met_none rfl) (fun a W hE hS => ?_) ?_
  · obtain ⟨b0, e0, q0⟩ := Reg.see_kind 18 4 hS (by kernel_rfl) (by kernel_rfl) rfl rfl
    refine Reg.wp_call rfl Tryz.func45 rfl (by kernel_rfl) (by simp [Act.eval, strVE, e0]) (hfour_any [105, 114, 113, 115] (some ⟨b0, 0, none⟩) 1 1 [64] (by omega) W (by have := q0.rd (size := 1) (n := 1) rfl; simpa using this)) ?_
    rintro e w' ⟨⟨v, rfl, hv⟩, hB⟩
    exact ⟨_, rfl, _, rfl, hB, hv⟩
  refine Reg.pass_val (.pointer (some ⟨BB, 5, none⟩)) (Reg.met_none rfl) (fun a W hE hS => ?_) ?_
  · have e0 := Reg.see_old 1 hS (by kernel_rfl) (by kernel_rfl) rfl
    go_simp; first | done | rfl
  refine Reg.pass_val (.int .i64 8) (Reg.met_none rfl) (fun a W hE hS => ?_) ?_
  · have e0 := Reg.see_new 20 6 hS (by kernel_rfl) (by kernel_rfl) rfl rfl
    have cc : World.cell? W ⟨BB, 5, none⟩ = some (.int .i64 8) := ((hbB.drew.ext hE).cell 5).trans rfl; go_simp; first | done | rfl
  refine Reg.pass_val (.int .u32 8) (Reg.met_none rfl) (fun a W hE hS => ?_) ?_
  · have e0 := Reg.see_new 21 7 hS (by kernel_rfl) (by kernel_rfl) rfl rfl
    go_simp; first | done | rfl
  refine Reg.pass_step (intK 51 #[.int .u32 8] 1) (stable_int _ _ _) (Reg.met_none rfl) (fun a W hE hS => ?_) ?_
  · have e0 := Reg.see_new 22 8 hS (by kernel_rfl) (by kernel_rfl) rfl rfl
    refine wp_runR (Flow.reg_buildSlice _ rfl (by simp [Act.eval, e0]) (run_n1 elU32 W 8)) ?_
    exact ⟨_, rfl, (Ext.refl W).alloc _, W.heap.size, rfl, Blk.new _ _ _⟩
  refine Reg.pass_step (prpK) (stable_prp) (Reg.met_none rfl) (fun a W hE hS => ?_) ?_
  · obtain ⟨b0, e0, q0⟩ := Reg.see_kind 23 9 hS (by kernel_rfl) (by kernel_rfl) rfl rfl
    refine Reg.wp_call rfl Tryz.func45 rfl (by kernel_rfl) (by simp [Act.eval, strVE, e0]) (hfour_any [115, 116, 114, 101, 97, 109, 115] (some ⟨b0, 0, none⟩) 1 1 [8] (by omega) W (by have := q0.rd (size := 1) (n := 1) rfl; simpa using this)) ?_
    rintro e w' ⟨⟨v, rfl, hv⟩, hB⟩
    exact ⟨_, rfl, _, rfl, hB, hv⟩
  refine Reg.pass_step (rowK 3) (stable_row _) (Reg.met_none rfl) (fun a W hE hS => ?_) ?_
  · obtain ⟨s0, A0, n0, c0, e0, q0⟩ := Reg.see_kind 14 0 hS (by kernel_rfl) (by kernel_rfl) rfl rfl
    obtain ⟨s1, A1, n1, c1, e1, q1⟩ := Reg.see_kind 19 5 hS (by kernel_rfl) (by kernel_rfl) rfl rfl
    obtain ⟨s2, A2, n2, c2, e2, q2⟩ := Reg.see_kind 24 10 hS (by kernel_rfl) (by kernel_rfl) rfl rfl
    refine wp_runR (Flow.reg_buildSlice _ rfl (by simp [Act.eval, e0, e1, e2]) (run_prp3 W s0 A0 n0 c0 s1 A1 n1 c1 s2 A2 n2 c2)) ?_
    exact ⟨_, rfl, (Ext.refl W).alloc _, W.heap.size, rfl, trivial⟩
  refine Reg.pass_step (treK) (stable_tre) (Reg.met_none rfl) (fun a W hE hS => ?_) ?_
  · obtain ⟨b0, e0, q0⟩ := Reg.see_kind 25 11 hS (by kernel_rfl) (by kernel_rfl) rfl rfl
    refine Reg.wp_call rfl Tryz.func43 rfl (by kernel_rfl) (by simp [Act.eval, strVE, e0]) (node_any [] (some ⟨b0, 0, none⟩) 3 3 W) ?_
    rintro e w' ⟨⟨v, rfl, hv⟩, hB⟩
    exact ⟨_, rfl, _, rfl, hB, hv⟩
  refine Reg.pass_new 64 zTr rfl rfl zeroTree ?_
  refine ⟨fun i hi o ho => ?_, ?_⟩
  · simp only [List.mem_cons, List.not_mem_nil, or_false] at hi
    rcases hi with rfl
    · cases ho; exact ⟨_, _, rfl, rfl, zeroTree, rfl⟩
  refine Reg.tail_end [none, none, none, none, none, some 5, none, none, none, none, none, none, none, none, some 14, some 15, some 16, some 17, some 18, some 19, some 20, some 21, some 22, some 23, some 24, some 25, some 26, none, none, none, none, none, none, none, none, none, none, none, none, none, none, none, none, none, none, none, none, none, none, none, none, none, none, none, none, none, none, none] (by kernel_rfl) ?_
  intro ff w9 hE hf hfr
  obtain ⟨b5, h5, hz5⟩ : Reg.newK 64 zTr (ff 5) w9 := hf 5 13 _ (by kernel_rfl) (by decide) rfl
  obtain ⟨b5', e5', hl5, hd5⟩ := hfr 13 (by simp) 5 (by kernel_rfl)
  have h15 : ff 15 = _ := hf 15 1 _ (by kernel_rfl) (by decide) rfl
  have h16 : ff 16 = _ := hf 16 2 _ (by kernel_rfl) (by decide) rfl
  have h17 : ff 17 = _ := hf 17 3 _ (by kernel_rfl) (by decide) rfl
  have h20 : ff 20 = _ := hf 20 6 _ (by kernel_rfl) (by decide) rfl
  have h21 : ff 21 = _ := hf 21 7 _ (by kernel_rfl) (by decide) rfl
  have h22 : ff 22 = _ := hf 22 8 _ (by kernel_rfl) (by decide) rfl
  obtain ⟨s26, A26, n26, c26, B26, m26, d26, h26, q26⟩ : (treK) (ff 26) w9 := hf 26 12 _ (by kernel_rfl) (by decide) rfl
  have g5 : (W3.heap.size) ≤ b5 := by
    rw [h5] at e5'
    simp only [Reg.ptr, Value.pointer.injEq, Option.some.injEq, Addr.mk.injEq, and_true] at e5'
    rw [e5']; exact hl5.1
  have l5 : b5 < w9.heap.size := hz5.lt
  clear hf hfr e5' hl5 hd5
  simp only [Reg.sel, h5, h26, List.drop_succ_cons, List.drop_zero]
  go_wp2_with ((with_reducible refine at_store 64 ?_); refine wpList_storeAll w9 rfl 64 _ _ rfl b5 64 _ (treC s26 A26 n26 c26 B26 m26 d26) hz5 rfl rfl rfl (infTree rfl) (tre_one _ _ _ _ _ _ _) ?_; intro W4 hbT hg4 hs4)
  have hE9 : Ext W3 w9 := (Ext.refl W3).drew.trans hE
  have hE4 : Ext W3 W4 := grown_below hE9 hg4 hE9.size g5
  have hbB4 := hbB.ext hE4
  have hbR4 := hbR3.ext hE4
  have hE04 := hE3.trans hE4
  have hRb : BR < b5 := by have := hbR3.lt; omega
  have g5' := g5
  clear hz5 hg4 hs4 hE hE9 hbB hbR3 hE3 hE4 l5 g5
  refine (node_all [99, 112, 117, 115] none 0 0 W4).mono ?_
  rintro e W5 ⟨rfl, hB5⟩
  have hbB5 := hbB4.ext hB5
  have hbR5 := hbR4.ext hB5
  have hbT5 := hbT.ext hB5
  have hE05 := hE04.trans hB5
  clear hbB4 hbR4 hbT hE04 hB5
  have hcz : (treC [99, 112, 117, 115] none 0 0 none 0 0) = #[strVE [99, 112, 117, 115], .slice none 0 0, .slice none 0 0] := rfl
  go_wp2_with (first
    | ((with_reducible refine at_alloc 64 ?_); refine wpList_allocO W5 rfl rfl (.agg zTr) zeroTree ?_; intro W6 BA hE6 hl6 hz6)
    | ((with_reducible refine at_store 64 ?_); refine wpList_storeAll W6 rfl 64 _ _ rfl BA 64 _ (treC [99, 112, 117, 115] none 0 0 none 0 0) hz6 rfl rfl rfl (infTree rfl) (tre_one _ _ _ _ _ _ _) ?_; intro W7 hbA hg7 hs7; have hE7 : Ext W5 W7 := grown_below hE6 hg7 hE6.size hl6; have hbB7 := hbB5.ext hE7; have c4 := (hbB7.cell 6).trans (show bdC[6]? = some (.int .i64 4) from rfl)))
  have hbR7 := hbR5.ext hE7
  have hbT7 := hbT5.ext hE7
  have hE07 := hE05.trans hE7
  have l1 := hbB5.lt
  have l2 := hbR5.lt
  have l3 := hbT5.lt
  have l4 := hE05.size
  have l5 := hbA.lt
  have l6 := hE6.size
  have hoA : W7.ownsRow (BA + 1) 64 3 (.slice none 0 0) 0 [] := World.ownsRow_nil _ _ _ _
  clear hz6 hg7 hs7 hE6 hE7 hbB5 hbR5 hbT5 hE05 c4 hcz
  go_loopw [31] (fun i wr => ∃ k : Nat, k ≤ 4 ∧ i = .int .u32 (k : Int) ∧ ∃ (A : Option Addr) (c : Nat) (xs : List Value), Blk wr BA 64 (treC [99, 112, 117, 115] none 0 0 A k c) ∧ wr.ownsRow (BA + 1) 64 3 (.slice A k c) k xs ∧ Below BA W7 wr) (fun i _ => 4 - (intOf i).toNat)
  case atStart => exact ⟨0, by omega, rfl, none, 0, [], hbA, hoA, Below.refl _ _⟩
  case round =>
    obtain ⟨k, hk, rfl, A, c, xs, hbA, hO, hBl⟩ := hrel
    by_cases hk4 : k < 4
    · go_wp2_with fail
      refine Reg.wp_region_tailW 11 [] (by kernel_rfl) (by kernel_rfl) (by kernel_rfl) (by kernel_rfl) (by kernel_rfl) ?_
      refine Reg.pass_val (.pointer (some ⟨BA, 2, none⟩)) (Reg.met_none rfl) (fun a W hE hS => ?_) ?_
      · have e0 := Reg.see_old 6 hS (by kernel_rfl) (by kernel_rfl) rfl
        go_simp; first | done | rfl
      refine Reg.pass_val (.slice A k c) (Reg.met_none rfl) (fun a W hE hS => ?_) ?_
      · have e0 := Reg.see_new 34 0 hS (by kernel_rfl) (by kernel_rfl) rfl rfl
        have cc : World.cell? W ⟨BA, 2, none⟩ = some (.slice A k c) := ((hbA.drew.ext hE).cell 2).trans rfl; go_simp; first | done | rfl
      refine Reg.pass_old (X := .int .u32 (k : Int)) 7 (Reg.met_none rfl) (.inl rfl) (by kernel_rfl) (by kernel_rfl) rfl ?_
      refine Reg.pass_val (.int .u64 (k : Int)) (Reg.met_none rfl) (fun a W hE hS => ?_) ?_
      · have e0 := Reg.see_new 36 2 hS (by kernel_rfl) (by kernel_rfl) rfl rfl
        go_simp; first | done | rfl | (rw [IntWalk.u64_in _ (by omega)]; first | done | rfl)
      refine Reg.pass_step (strK) (stable_str) (Reg.met_none rfl) (fun a W hE hS => ?_) ?_
      · have e0 := Reg.see_new 37 3 hS (by kernel_rfl) (by kernel_rfl) rfl rfl
        refine Reg.wp_call rfl Tryz.func46 rfl (by kernel_rfl) (by simp [Act.eval, strVE, e0]) (at_any [99, 112, 117] (by decide) k (by omega) W) ?_
        rintro e w' ⟨⟨v, rfl, hv⟩, hB⟩
        exact ⟨_, rfl, _, rfl, hB, hv⟩
      refine Reg.pass_old (X := .int .u32 (k : Int)) 7 (Reg.met_none rfl) (.inl rfl) (by kernel_rfl) (by kernel_rfl) rfl ?_
      refine Reg.pass_step (intK 51 #[.int .u32 (k : Int)] 1) (stable_int _ _ _) (Reg.met_none rfl) (fun a W hE hS => ?_) ?_
      · have e0 := Reg.see_new 39 5 hS (by kernel_rfl) (by kernel_rfl) rfl rfl
        refine wp_runR (Flow.reg_buildSlice _ rfl (by simp [Act.eval, e0]) (run_n1 elU32 W k)) ?_
        exact ⟨_, rfl, (Ext.refl W).alloc _, W.heap.size, rfl, Blk.new _ _ _⟩
      refine Reg.pass_step (prpK) (stable_prp) (Reg.met_none rfl) (fun a W hE hS => ?_) ?_
      · obtain ⟨b0, e0, q0⟩ := Reg.see_kind 40 6 hS (by kernel_rfl) (by kernel_rfl) rfl rfl
        refine Reg.wp_call rfl Tryz.func45 rfl (by kernel_rfl) (by simp [Act.eval, strVE, e0]) (hfour_any [114, 101, 103] (some ⟨b0, 0, none⟩) 1 1 [k] (by omega) W (by have := q0.rd (size := 1) (n := 1) rfl; simpa using this)) ?_
        rintro e w' ⟨⟨v, rfl, hv⟩, hB⟩
        exact ⟨_, rfl, _, rfl, hB, hv⟩
      refine Reg.pass_step (rowK 1) (stable_row _) (Reg.met_none rfl) (fun a W hE hS => ?_) ?_
      · obtain ⟨s0, A0, n0, c0, e0, q0⟩ := Reg.see_kind 41 7 hS (by kernel_rfl) (by kernel_rfl) rfl rfl
        refine wp_runR (Flow.reg_buildSlice _ rfl (by simp [Act.eval, e0]) (run_prp1 W s0 A0 n0 c0)) ?_
        exact ⟨_, rfl, (Ext.refl W).alloc _, W.heap.size, rfl, trivial⟩
      refine Reg.pass_step (treK) (stable_tre) (Reg.met_none rfl) (fun a W hE hS => ?_) ?_
      · obtain ⟨s0, e0, q0⟩ := Reg.see_kind 38 4 hS (by kernel_rfl) (by kernel_rfl) rfl rfl
        obtain ⟨b1, e1, q1⟩ := Reg.see_kind 42 8 hS (by kernel_rfl) (by kernel_rfl) rfl rfl
        refine Reg.wp_call rfl Tryz.func43 rfl (by kernel_rfl) (by simp [Act.eval, strVE, e0, e1]) (node_any s0 (some ⟨b1, 0, none⟩) 1 1 W) ?_
        rintro e w' ⟨⟨v, rfl, hv⟩, hB⟩
        exact ⟨_, rfl, _, rfl, hB, hv⟩
      refine Reg.pass_step (treR) (stable_treR) (Reg.met_none rfl) (fun a W hE hS => ?_) ?_
      · obtain ⟨s0, A0, n0, c0, B0, m0, d0, e0, q0⟩ := Reg.see_kind 43 9 hS (by kernel_rfl) (by kernel_rfl) rfl rfl
        refine wp_runR (Flow.reg_buildSlice _ rfl (by simp [Act.eval, e0]) (run_tre1 W s0 A0 n0 c0 B0 m0 d0)) ?_
        exact ⟨_, rfl, (Ext.refl W).alloc _, s0, A0, n0, c0, B0, m0, d0, W.heap.size, rfl, Blk.new _ _ _⟩
      refine ⟨(fun i hi => by cases hi), ?_⟩
      refine Reg.tail_end [none, none, none, none, none, none, none, none, none, none, none, none, none, none, none, none, none, none, none, none, none, none, none, none, none, none, none, none, none, none, none, none, none, none, some 34, some 35, some 36, some 37, some 38, some 39, some 40, some 41, some 42, some 43, some 44, none, none, none, none, none, none, none, none, none, none, none, none, none] (by kernel_rfl) ?_
      intro ff w9 hE hf hfr
      have h34 : ff 34 = _ := hf 34 0 _ (by kernel_rfl) (by decide) rfl
      have h35 : ff 35 = _ := hf 35 1 _ (by kernel_rfl) (by decide) rfl
      have h36 : ff 36 = _ := hf 36 2 _ (by kernel_rfl) (by decide) rfl
      have h37 : ff 37 = _ := hf 37 3 _ (by kernel_rfl) (by decide) rfl
      have h39 : ff 39 = _ := hf 39 5 _ (by kernel_rfl) (by decide) rfl
      obtain ⟨s44, A44, n44, c44, B44, m44, d44, b44, h44, q44⟩ : (treR) (ff 44) w9 := hf 44 10 _ (by kernel_rfl) (by decide) rfl
      clear hf hfr 
      have hEr : Ext wr w9 := (Ext.refl wr).drew.trans hE
      have hO9 := own_chg hO (Chg.of_ext hEr) (fun _ _ => id)
      have hbA9 := hbA.ext hEr
      have hrd9 : Rd w9 w9.heap.size 3 (some ⟨b44, 0, none⟩) 1 [strVE s44, .slice A44 n44 c44, .slice B44 m44 d44] := by have := q44.rd (size := 3) (n := 1) rfl; simpa using this
      have lt9 := hbA9.lt
      simp only [Reg.sel, h35, h44, List.drop_succ_cons, List.drop_zero]
      go_wp2_with (first
        | ((with_reducible refine at_append ?_); refine wpList_app w9 elTre rfl _ _ rfl (BA + 1) A k c xs rfl hO9 w9.heap.size (some ⟨b44, 0, none⟩) 1 1 [strVE s44, .slice A44 n44 c44, .slice B44 m44 d44] rfl hrd9 (by intro v hv; simp only [List.mem_cons, List.not_mem_nil, or_false] at hv; rcases hv with rfl | rfl | rfl <;> rfl) (by omega) (by omega) (by omega) ?_; intro A5 c5 W8 hO8 hg8 hB8 hob8; have hbA8 : Blk W8 BA 64 (treC [99, 112, 117, 115] none 0 0 A k c) := (hg8.block BA lt9 (fun e => by have := (hO9.lt BA e.symm).1; omega)).trans hbA9)
        | ((with_reducible refine at_store 62 ?_); refine wpList_runS rfl (reg_storeSlice rfl (by kernel_rfl) hbA8 rfl rfl (by simp [treC])) ?_))
      have hE8 : Below BA wr W8 := (hEr.mono (Nat.le_of_lt hbA.lt)).trans (hB8.mono (Nat.le_succ _))
      have hO10 := own_chg hO8 (Chg.grown (Z := fun b => b = BA) (grown_setE W8 BA 2 (.slice A5 (k + 1) c5)) (by rintro j h; cases h; rfl)) (fun b hb e => by have := (hO8.lt b hb).1; have e : b = BA := e; omega)
      go_roundw
      case rel => exact ⟨k + 1, by omega, by go_num, A5, c5, _, hbA8.set_ 2 _, hO10, (hBl.trans hE8).setCell (p := ⟨BA, 2, none⟩) (Nat.le_refl _) _⟩
      case measure => simp [intOf]; omega
    · obtain rfl : k = 4 := by omega
      go_wp2_with fail
      obtain ⟨tc, hcc⟩ : ∃ tc, tc = treC [99, 112, 117, 115] none 0 0 A 4 c := ⟨_, rfl⟩
      rw [← hcc] at hbA
      have htc : tc.size = 3 := by rw [hcc]; rfl
      have htci : (Tryz.prog.info? 64).map (·.size) = some tc.size := infTree htc
      have hbB := hbB7.below hBl (by omega)
      have hbR := hbR7.below hBl (by omega)
      have hbT := hbT7.below hBl (by omega)
      have hEw : Below w.heap.size w wr := Below.trans hE07 (hBl.mono (by omega))
      clear hcc hbB7 hbR7 hbT7 hE07 hBl hO hoA
      refine Reg.wp_region_tailW 8 [] (by kernel_rfl) (by kernel_rfl) (by kernel_rfl) (by kernel_rfl) (by kernel_rfl) ?_
      refine Reg.pass_val (.agg tc) (Reg.met_none rfl) (fun a W hE hS => ?_) ?_
      · have e0 := Reg.see_old 6 hS (by kernel_rfl) (by kernel_rfl) rfl
        exact reg_load 64 _ rfl e0 (hbA.drew.ext hE) Tryz.underlying64 rfl htci
      refine Reg.pass_val (.pointer (some ⟨BB, 0, none⟩)) (Reg.met_none rfl) (fun a W hE hS => ?_) ?_
      · have e0 := Reg.see_old 1 hS (by kernel_rfl) (by kernel_rfl) rfl
        go_simp; first | done | rfl
      refine Reg.pass_val (.agg (Sp.cells ⟨1073741824, 134217728⟩)) (Reg.met_none rfl) (fun a W hE hS => ?_) ?_
      · have e0 := Reg.see_new 49 1 hS (by kernel_rfl) (by kernel_rfl) rfl rfl
        exact reg_loadPK 25 _ rfl e0 (b := BB) (off := 0) (cs := (Sp.cells ⟨1073741824, 134217728⟩).toList) (bd_sp0 (hbB.drew.ext hE)) Tryz.underlying25 rfl (by kernel_rfl)
      refine Reg.pass_step (treK) (stable_tre) (Reg.met_none rfl) (fun a W hE hS => ?_) ?_
      · have e0 := Reg.see_new 50 2 hS (by kernel_rfl) (by kernel_rfl) rfl rfl
        refine Reg.wp_call rfl Tryz.func47 rfl (by kernel_rfl) (by simp [Act.eval, strVE, e0]) (stretch_any [109, 101, 109, 111, 114, 121] (by decide) ⟨1073741824, 134217728⟩ (by decide) W) ?_
        rintro e w' ⟨⟨v, rfl, hv⟩, hB⟩
        exact ⟨_, rfl, _, rfl, hB, hv⟩
      refine Reg.pass_val (.pointer (some ⟨BB, 2, none⟩)) (Reg.met_none rfl) (fun a W hE hS => ?_) ?_
      · have e0 := Reg.see_old 1 hS (by kernel_rfl) (by kernel_rfl) rfl
        go_simp; first | done | rfl
      refine Reg.pass_val (.agg (Sp.cells ⟨1073741824, 1048576⟩)) (Reg.met_none rfl) (fun a W hE hS => ?_) ?_
      · have e0 := Reg.see_new 52 4 hS (by kernel_rfl) (by kernel_rfl) rfl rfl
        exact reg_loadPK 25 _ rfl e0 (b := BB) (off := 2) (cs := (Sp.cells ⟨1073741824, 1048576⟩).toList) (bd_sp1 (hbB.drew.ext hE)) Tryz.underlying25 rfl (by kernel_rfl)
      refine Reg.pass_step (treK) (stable_tre) (Reg.met_none rfl) (fun a W hE hS => ?_) ?_
      · have e0 := Reg.see_new 53 5 hS (by kernel_rfl) (by kernel_rfl) rfl rfl
        refine Reg.wp_call rfl Tryz.func47 rfl (by kernel_rfl) (by simp [Act.eval, strVE, e0]) (stretch_any [108, 111, 97, 100, 101, 114] (by decide) ⟨1073741824, 1048576⟩ (by decide) W) ?_
        rintro e w' ⟨⟨v, rfl, hv⟩, hB⟩
        exact ⟨_, rfl, _, rfl, hB, hv⟩
      refine Reg.pass_step (rowK 3) (stable_row _) (Reg.met_none rfl) (fun a W hE hS => ?_) ?_
      · have e0 := Reg.see_new 48 0 hS (by kernel_rfl) (by kernel_rfl) rfl rfl
        obtain ⟨s1, A1, n1, c1, B1, m1, d1, e1, q1⟩ := Reg.see_kind 51 3 hS (by kernel_rfl) (by kernel_rfl) rfl rfl
        obtain ⟨s2, A2, n2, c2, B2, m2, d2, e2, q2⟩ := Reg.see_kind 54 6 hS (by kernel_rfl) (by kernel_rfl) rfl rfl
        refine wp_runR (Flow.reg_buildSlice _ rfl (by simp [Act.eval, e0, e1, e2]) (run_tre3 W tc htc s1 A1 n1 c1 B1 m1 d1 s2 A2 n2 c2 B2 m2 d2)) ?_
        exact ⟨_, rfl, (Ext.refl W).alloc _, W.heap.size, rfl, trivial⟩
      refine ⟨(fun i hi => by cases hi), ?_⟩
      refine Reg.tail_end [none, none, none, none, none, none, none, none, none, none, none, none, none, none, none, none, none, none, none, none, none, none, none, none, none, none, none, none, none, none, none, none, none, none, none, none, none, none, none, none, none, none, none, none, none, none, none, none, some 48, some 49, some 50, some 51, some 52, some 53, some 54, some 55, none, none] (by kernel_rfl) ?_
      intro ff w9 hE hf hfr
      have h48 : ff 48 = _ := hf 48 0 _ (by kernel_rfl) (by decide) rfl
      have h49 : ff 49 = _ := hf 49 1 _ (by kernel_rfl) (by decide) rfl
      have h50 : ff 50 = _ := hf 50 2 _ (by kernel_rfl) (by decide) rfl
      have h52 : ff 52 = _ := hf 52 4 _ (by kernel_rfl) (by decide) rfl
      have h53 : ff 53 = _ := hf 53 5 _ (by kernel_rfl) (by decide) rfl
      obtain ⟨b55, h55, q55⟩ : (rowK 3) (ff 55) w9 := hf 55 7 _ (by kernel_rfl) (by decide) rfl
      clear hf hfr 
      have hEr : Ext wr w9 := (Ext.refl wr).drew.trans hE
      have hbT9 := hbT.ext hEr
      have hbR9 := hbR.ext hEr
      simp only [Reg.sel, h55, List.drop_succ_cons, List.drop_zero]
      go_wp2_with (first
        | ((with_reducible refine at_store 62 ?_); refine wpList_runS rfl (reg_storeSlice rfl (by kernel_rfl) hbT9 rfl rfl (by simp [treC])) ?_; have hbT10 : Blk (w9.setCell ⟨b5, 2, none⟩ (.slice (some ⟨b55, 0, none⟩) 3 3)) b5 64 (treC s26 A26 n26 c26 (some ⟨b55, 0, none⟩) 3 3) := hbT9.set_ 2 _; have hbR10 := hbR9.far (p := ⟨b5, 2, none⟩) (show BR ≠ b5 by omega) (.slice (some ⟨b55, 0, none⟩) 3 3))
        | ((with_reducible refine at_load 64 ?_); refine wpList_loadAll _ rfl 64 _ rfl b5 64 (treC s26 A26 n26 c26 (some ⟨b55, 0, none⟩) 3 3) hbT10 _ rfl Tryz.underlying64 rfl (infTree rfl) ?_)
        | ((with_reducible refine at_store 64 ?_); refine wpList_storeAll _ rfl 64 _ _ rfl BR 64 _ (treC s26 A26 n26 c26 (some ⟨b55, 0, none⟩) 3 3) hbR10 rfl rfl rfl (infTree rfl) (tre_one _ _ _ _ _ _ _) ?_; intro W10 hbF hg10 hs10))
      refine bodyPost_ret (results_cellTE (cs := treC s26 A26 n26 c26 (some ⟨b55, 0, none⟩) 3 3) rfl _ _ BR _ _ _ _ rfl rfl hbF Tryz.underlying64 rfl (infTree rfl)) rfl ?_
      have z1 : w.heap.size ≤ W1.heap.size := hE1.size
      have z2 : W1.heap.size ≤ W2.heap.size := hE2.size
      have z3 : W2.heap.size ≤ W3.heap.size := hB3.size
      have hB9 : Below w.heap.size w w9 := hEw.trans (hEr.mono hEw.size)
      exact ⟨⟨_, rfl, rfl, tre_one _ _ _ _ _ _ _⟩, grown_below (hB9.setCell (p := ⟨b5, 2, none⟩) (show w.heap.size ≤ b5 by omega) _) hg10 (by have := hB9.size; simp; omega) (by omega)⟩
end Go.Proofs.YtpellkblaeeopaaGreatDoor
