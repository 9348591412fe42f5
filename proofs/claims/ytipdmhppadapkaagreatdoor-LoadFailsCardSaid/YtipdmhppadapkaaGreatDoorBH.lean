/-
  Parts: FlowIn UpA UpB UpC UpD UpE.
-/
import Derived.Test.YtipdmhppadapkaaGreatDoorBA
import Derived.OrdersIn
import Derived.RangeFuncCalls
import Derived.OwnWalkIn
import Derived.Test.YtipdmhppadapkaaGreatDoorBF
import Derived.Test.YtipdmhppadapkaaGreatDoorBE
import Derived.Test.YtipdmhppadapkaaGreatDoorBG
/-
  My two laws for a region that draws its order, in a fence: of a plain call, and of a round of a loop over a function.
-/
namespace Go.Proofs.YtipdmhppadapkaaGreatDoor
open Go.RowKit

def Plain (F : Fence) : Prop := F = Fence.wide ∨ ∃ l, F = Fence.wide.inRound l
theorem Plain.wide : Plain Fence.wide := .inl rfl
theorem Plain.round (l : Nat) : Plain (Fence.wide.inRound l) := .inr ⟨l, rfl⟩
def onlyN (Q : Exit → Act → World → Prop) : Exit → Act → World → Prop := fun e a w => e = .normal ∧ Q .normal a w
def noDefer (ops : Array Oper) : Bool := ops.all fun o => match o.op with | .defer _ => false | _ => true
theorem noDefer_get {ops : Array Oper} (h : noDefer ops = true) {i : Nat} {o : Oper} (hi : ops[i]? = some o) : ∀ c, o.op ≠ .defer c := by
  intro c hc
  have := (Array.all_eq_true'.1 h) o (Array.mem_of_getElem? hi)
  rw [hc] at this; cases this
section
variable {F : Fence} {n : Nat} {P : Program}
theorem Plain.fn (h : Plain F) (f : FuncId) : F.fn f := by rcases h with rfl | ⟨l, rfl⟩ <;> trivial
theorem Plain.depth (h : Plain F) : F.depth = none := by rcases h with rfl | ⟨l, rfl⟩ <;> rfl
theorem Plain.calls (h : Plain F) {m : Nat} {f : FuncId} {args : Array Value} {w : World} {R : Ending → World → Prop} (hc : Calls P f args w R) : CallsIn F m P f args w R := by
  rcases h with rfl | ⟨l, rfl⟩
  · exact callsIn_wide.2 hc
  · exact CallsIn.inRound l (callsIn_wide.2 hc)
theorem Plain.rows (h : Plain F) {m : Nat} {row : String} {args : Array Value} {w : World} {R : Value → World → Prop} (hc : Rows P row args w R) : RowsIn F m P row args w R := by
  rcases h with rfl | ⟨l, rfl⟩
  · exact fun c cs _ => let ⟨v, w', r, s⟩ := hc c cs; ⟨v, w', r, stepsIn_wide.2 s⟩
  · exact fun c cs _ => let ⟨v, w', r, s⟩ := hc c cs; ⟨v, w', r, stepsIn_wide.2 s⟩
/-- what an operation does outside of fences it does in one -/
theorem Oper.wp_in {Q : Exit → Act → World → Prop} {o : Oper} {a : Act} {w : World} {K K' : Act → World → Prop} (hF : Plain F) (hnd : ∀ c, o.op ≠ .defer c) (hK : ∀ a w, K a w → K' a w) (h : o.wp P a w K (onlyN Q)) : o.wpIn F n P a w K' Q := by
  unfold Oper.wpIn
  refine ⟨fun f _ => hF.fn f, ?_⟩
  rw [Oper.semAt_plain F _ _ hnd]
  unfold Oper.wp at h
  have hd : F.depth.isSome = true → 1 ≤ n := by rw [hF.depth]; intro h; cases h
  generalize (execOp a.eval o).run P w = r at *
  cases r with
  | ok x w' =>
    cases x <;> simp only [Oper.upon, Oper.uponIn] at h ⊢
    case value => exact hK _ _ h
    case skip => exact hK _ _ h
    case defer => exact hK _ _ h
    case enter =>
      refine ⟨hd, hF.calls (Calls.mono h fun e w'' he => ?_)⟩
      cases e with
      | returned v => exact hK _ _ he
      | panicked ch => exact absurd he.1 (by simp)
      | outgrown => obtain ⟨a, w, h1, _⟩ := he; cases h1
    case row => exact ⟨hd, hF.rows (Rows.mono h fun v w'' he => hK _ _ he)⟩
  | halt x w' =>
    cases x <;> simp only [Oper.upon, Oper.uponIn] at h ⊢
    exact absurd h.1 (by simp)
theorem any_in {ops : Array Oper} {Q : Exit → Act → World → Prop} (hF : Plain F) (hnd : noDefer ops = true) : ∀ (fuel : Nat) (L : Array Bool) (a : Act) (w : World), wpAny P .any ops (onlyN Q) fuel L a w → wpAnyIn F n P .any ops Q fuel L a w
  | 0, L, a, w, h => ⟨h.1, h.2.2⟩
  | fuel + 1, L, a, w, h => ⟨fun hr => (h.1 hr).2, fun i hi => by
    have h1 := h.2 i hi
    unfold wpOp at h1
    unfold wpOpIn
    cases ho : ops[i]? with
    | none => simp only [ho] at h1; exact any_in hF hnd fuel _ _ _ h1
    | some o =>
      simp only [ho] at h1 ⊢
      split at h1
      · rename_i hw
        rw [if_pos hw]
        rcases h1 with h1 | ⟨_, a', w', h2, _⟩
        · exact Oper.wp_in hF (noDefer_get hnd ho) (fun a w h => any_in hF hnd fuel _ a w h) h1
        · cases h2
      · rename_i hw
        rw [if_neg hw]
        exact ⟨fun f _ => hF.fn f, any_in hF hnd fuel _ _ _ h1⟩⟩
end
namespace Flow
section
variable {F : Fence} {n : Nat} {P : Program} {ops : Array Oper} {Q : Exit → Act → World → Prop} {a0 : Act} {w0 : World}
theorem wpIn_region_flow {id : Nat} (hF : Plain F) (hnd : noDefer ops = true) (n0 : Nat) (zs : Zs) (fs : Fs) (hm : P.follows .mixedOrders = true) (hs : Reg.shape ops a0.tmps.size = true) (hn0 : n0 ≤ w0.heap.size) (hzs : ∀ p ∈ zs, ∀ b, p.2 b → n0 ≤ b)
    (hfs : ∀ p ∈ fs, p.2 w0.drew ∧ ∀ k, mayFollow ops k p.1 = true → Kept (zone zs k) p.2)
    (h : PassR P ops (onlyN Q) a0 w0.drew n0 zs fs (fun Ts => ∀ a w, Final ops a0 w0.drew n0 fs Ts a w → onlyN Q .normal a w) ops.toList []) : (Code.region id ops true).wpIn F n P Q a0 w0 := by
  obtain ⟨Ts, hend, hl, hg⟩ := pass_get _ _ h
  simp only [List.reverse_nil, List.nil_append, List.length_nil, Nat.zero_add] at hend hg
  refine wpIn_region_any hm (any_in hF hnd _ _ _ _ (step_any (w0 := w0.drew) (n0 := n0) (fs := fs) hs hn0 hzs (fun p hp => (hfs p hp).2) (fun i o hi => hg i o (by simpa using hi)) hend _ _ _ _
    ⟨by simp, ?_, rfl, rfl, Below.refl _ _, fun t _ => rfl, ?_, fun p hp _ => (hfs p hp).1⟩ (Nat.le_trans (List.length_filter_le _ _) (by simp))))
  · intro j o hj
    exfalso
    by_cases h : j < ops.size <;> simp [h] at hj
  · intro j hj
    exfalso
    by_cases h : j < ops.size <;> simp [h] at hj
end
end Flow
namespace Reg
section
variable {F : Fence} {n : Nat} {P : Program} {ops : Array Oper} {Q : Exit → Act → World → Prop} {a0 : Act} {w0 : World}
def coverW (ops : Array Oper) (m : Nat) : Bool :=
  (List.range ops.size).all fun i => decide (i < m) || (List.range i).all fun j => Flow.waits ops 24 i j
theorem coveredW {m i j : Nat} {L : Array Bool} (hcov : coverW ops m = true) (him : m ≤ i) (hi : i < ops.size) (hj : j < i)
    (hpre : ∀ e ∈ (ops[i]'hi).after, binds e = true → L.getD e.on false = true)
    (hcl : ∀ j o, L.getD j false = true → ops[j]? = some o → ∀ e ∈ o.after, binds e = true → L.getD e.on false = true) : L.getD j false = true := by
  have h1 := (List.all_eq_true.1 hcov) i (by simpa using hi)
  simp only [Bool.or_eq_true, decide_eq_true_eq] at h1
  rcases h1 with h1 | h1
  · omega
  · have h2 := (List.all_eq_true.1 h1) j (by simpa using hj)
    simp only [Flow.waits, Array.getElem?_eq_getElem hi, Option.map_some, Option.getD_some, Array.any_eq_true', Bool.and_eq_true, Bool.or_eq_true, beq_iff_eq] at h2
    obtain ⟨e, he, hb, h⟩ := h2
    have h3 := hpre e he hb
    rcases h with h | h
    · rw [← h]; exact h3
    · exact Flow.waits_closed hcl 23 _ _ h3 h

theorem stepIn_tail (hF : Plain F) (hnd : noDefer ops = true) (hs : shape ops a0.tmps.size = true) {m : Nat} (hm : m ≤ ops.size) (hcov : coverW ops m = true) {Ts : List Kd} {al : List Nat} (hlow : ∀ i ∈ al, i < m)
    (hal : ∀ i ∈ al, ∀ o, ops[i]? = some o → ∃ te z, o.guard = none ∧ o.op = .alloc te ∧ (∀ W, (zeroValue te).run P W = .ok (.agg z) W) ∧ Ts[i]? = some (newK te z))
    (hg : ∀ i o, i < m → ops[i]? = some o → ∃ T, Ts[i]? = some T ∧ Good P ops (onlyN Q) a0 w0 (Ts.take i) i o T)
    (hend : ∀ (fuel : Nat) (L : Array Bool) (a : Act) (w : World), FinalM ops m al a0 w0 Ts a w → L.size = ops.size → (∀ j, L.getD j false = decide (j < m)) → ((List.range ops.size).filter fun i => !L.getD i true).length ≤ fuel → wpAnyIn F n P .any ops Q fuel L a w) :
    ∀ (fuel : Nat) (L : Array Bool) (a : Act) (w : World), J ops a0 w0 Ts L a w → (∀ j, m ≤ j → L.getD j false = false) → Fr ops al w0 L a w → ((List.range ops.size).filter fun i => !L.getD i true).length ≤ fuel → wpAnyIn F n P .any ops Q fuel L a w := by
  intro fuel
  induction fuel with
  | zero =>
    intro L a w hJ hFm hFr hf
    by_cases hall : ∀ j, j < m → L.getD j false = true
    · exact hend 0 L a w ⟨hJ.defers, hJ.tmps, hJ.ext, fun t ht => hJ.old t (fun j hj => hFm j (ht j hj)), fun t j hj hjm => hJ.new j (hall j hjm) t hj, fun i hi t ht => by
        obtain ⟨b, h1, h2, h3⟩ := hFr i hi (hall i (hlow i hi)) t ht
        exact ⟨b, h1, h2, fun j hj hji => h3 j hj hji (hall j (hlow j hj))⟩⟩ hJ.size (fun j => by
        rcases Nat.lt_or_ge j m with h | h
        · rw [hall j h]; simp [h]
        · rw [hFm j h]; simp; exact h) hf
    · exfalso
      obtain ⟨j, h1, h2, h3⟩ := least hall
      have := mem_count hJ.size (show j < ops.size by omega) h2
      rw [List.eq_nil_of_length_eq_zero (Nat.le_zero.1 hf)] at this
      cases this
  | succ fuel ih =>
    intro L a w hJ hFm hFr hf
    by_cases hall : ∀ j, j < m → L.getD j false = true
    · exact hend _ L a w ⟨hJ.defers, hJ.tmps, hJ.ext, fun t ht => hJ.old t (fun j hj => hFm j (ht j hj)), fun t j hj hjm => hJ.new j (hall j hjm) t hj, fun i hi t ht => by
        obtain ⟨b, h1, h2, h3⟩ := hFr i hi (hall i (hlow i hi)) t ht
        exact ⟨b, h1, h2, fun j hj hji => h3 j hj hji (hall j (hlow j hj))⟩⟩ hJ.size (fun j => by
        rcases Nat.lt_or_ge j m with h | h
        · rw [hall j h]; simp [h]
        · rw [hFm j h]; simp; exact h) hf
    refine ⟨fun hr => ?_, fun i hi => ?_⟩
    · exfalso
      obtain ⟨j, h1, h2, h3⟩ := least hall
      have := not_ready_nil hs hJ.size j (by omega) h2 h3
      rw [hr] at this; cases this
    unfold Region.ready at hi
    rw [List.mem_filter] at hi
    obtain ⟨hir, hib⟩ := hi
    have hi' : i < ops.size := by simpa using hir
    have hiL : i < L.size := by rw [hJ.size]; exact hi'
    rw [Array.getElem?_eq_getElem hi'] at hib
    simp only [Option.map_some, Option.getD_some, Bool.and_eq_true, Bool.not_eq_true'] at hib
    obtain ⟨hiF, hedges⟩ := hib
    have hiF' : L.getD i false = false := by simp [hiL] at hiF ⊢; exact hiF
    have hpre : ∀ e ∈ (ops[i]'hi').after, binds e = true → L.getD e.on false = true := by
      intro e he hb
      have := (Array.all_eq_true'.1 hedges) e he
      simp only [binds] at hb
      simpa [hb] using this
    have him : i < m := by
      rcases Nat.lt_or_ge i m with h | h
      · exact h
      · exfalso
        exact hall fun j hj => coveredW hcov h hi' (by omega) (fun e he hb => hpre e he hb) hJ.closed
    obtain ⟨T, hT, hst, hgood⟩ := hg i _ him (Array.getElem?_eq_getElem hi')
    have hsi := (List.all_eq_true.1 hs) i (by simpa using hi')
    rw [Array.getElem?_eq_getElem hi'] at hsi
    simp only [Option.map_some, Option.getD_some, Bool.and_eq_true] at hsi
    obtain ⟨⟨hlook, hdst⟩, hback⟩ := hsi
    have hstep := hgood a w hJ.ext hJ.defers (by
      intro t ht
      have hl1 := (List.all_eq_true.1 hlook) t ht
      unfold Sees
      cases hw : writer ops t with
      | none => exact hJ.old t (fun j hj => by rw [hw] at hj; cases hj)
      | some j =>
        simp only [hw, Bool.or_eq_true, Bool.and_eq_true, decide_eq_true_eq, beq_iff_eq] at hl1
        simp only []
        split
        · rename_i hji
          rcases hl1 with (⟨_, hb⟩ | ⟨h1, _⟩) | h1
          · simp only [behind, Array.getElem?_eq_getElem hi', Option.map_some, Option.getD_some, Array.any_eq_true', Bool.and_eq_true, beq_iff_eq] at hb
            obtain ⟨e, he, hbe, hon⟩ := hb
            have hLj := hpre e he hbe
            rw [hon] at hLj
            obtain ⟨v, T', h1, h2, h3⟩ := hJ.new j hLj t hw
            refine ⟨v, T', ?_, h2, h3⟩
            rw [List.getElem?_take, if_pos hji]; exact h1
          · omega
          · omega
        · rename_i hji
          refine hJ.old t (fun j' hj' => ?_)
          rw [hw] at hj'; cases hj'
          rcases hl1 with (⟨h1, _⟩ | ⟨_, hb⟩) | h1
          · omega
          · cases hLj : L.getD j false with
            | false => rfl
            | true =>
              exfalso
              have hj := (writer_some hw).1
              simp only [behind, Array.getElem?_eq_getElem hj, Option.map_some, Option.getD_some, Array.any_eq_true', Bool.and_eq_true, beq_iff_eq] at hb
              obtain ⟨e, he, hbe, hon⟩ := hb
              have := hJ.closed j _ hLj (Array.getElem?_eq_getElem hj) e he hbe
              rw [hon, hiF'] at this; cases this
          · rw [h1]; exact hiF')
    have hcount : ((List.range ops.size).filter fun k => !(L.setIfInBounds i true).getD k true).length ≤ fuel := by
      have hlt : ((List.range ops.size).filter fun k => !(L.setIfInBounds i true).getD k true).length < ((List.range ops.size).filter fun k => !L.getD k true).length := by
        have hsub : ((List.range ops.size).filter fun k => !(L.setIfInBounds i true).getD k true) = ((List.range ops.size).filter fun k => !L.getD k true).filter (· != i) := by
          rw [List.filter_filter]
          apply List.filter_congr
          intro k hk
          have hk' : k < ops.size := by simpa using hk
          have hkL : k < L.size := by rw [hJ.size]; exact hk'
          by_cases h : k = i
          · subst h; simp [hkL]
          · simp [h, Array.getElem?_setIfInBounds_ne (Ne.symm h)]
        rw [hsub]
        have hm : i ∈ ((List.range ops.size).filter fun k => !L.getD k true) := by
          rw [List.mem_filter]; exact ⟨hir, by simp [hiF]⟩
        exact List.length_filter_lt_length_iff_exists.2 ⟨i, hm, by simp⟩
      omega
    have hJ' : ∀ v w', Ext w w' → T v w' → J ops a0 w0 Ts (L.setIfInBounds i true) (a.put (ops[i]'hi').dst v) w' := by
      intro v w' hE hTv
      refine ⟨by simpa using hJ.size, ?_, ?_, ?_, hJ.ext.trans hE, ?_, ?_⟩
      · intro j o hj ho e he hb
        rw [getD_set _ _ _ hiL] at hj ⊢
        split
        · rfl
        · split at hj
          · rename_i _ hji
            subst hji
            rw [Array.getElem?_eq_getElem hi'] at ho; cases ho
            exact hpre e he hb
          · exact hJ.closed j o hj ho e he hb
      · cases hd : (ops[i]'hi').dst <;> simpa [Act.put, hd] using hJ.defers
      · cases hd : (ops[i]'hi').dst <;> simpa [Act.put, hd] using hJ.tmps
      · intro t ht
        have hti : (ops[i]'hi').dst ≠ some t := by
          intro hd
          rw [hd] at hdst
          simp only [Bool.and_eq_true, beq_iff_eq] at hdst
          have := ht i hdst.2
          rw [getD_set _ _ _ hiL, if_pos rfl] at this; cases this
        have h1 : (a.put (ops[i]'hi').dst v).tmps[t]? = a.tmps[t]? := by
          cases hd : (ops[i]'hi').dst with
          | none => rfl
          | some d => simp only [Act.put]; exact Array.getElem?_setIfInBounds_ne (fun e => hti (by rw [hd, e]))
        rw [h1]
        refine hJ.old t (fun j hj => ?_)
        have := ht j hj
        rw [getD_set _ _ _ hiL] at this
        split at this
        · cases this
        · exact this
      · intro j hj t ht
        rw [getD_set _ _ _ hiL] at hj
        by_cases hji : j = i
        · subst hji
          have hd := (writer_some ht).2
          rw [Array.getElem?_eq_getElem hi'] at hd
          simp only [Option.bind_some] at hd
          refine ⟨v, T, hT, ?_, hTv⟩
          rw [hd] at hdst ⊢
          simp only [Bool.and_eq_true, decide_eq_true_eq] at hdst
          have : t < a.tmps.size := by rw [hJ.tmps]; exact hdst.1
          simp [Act.put, this]
        · rw [if_neg hji] at hj
          obtain ⟨v', T', h1, h2, h3⟩ := hJ.new j hj t ht
          have hst' : Stable T' := by
            have hjs := (writer_some ht).1
            have hjm : j < m := by
              rcases Nat.lt_or_ge j m with h | h
              · exact h
              · rw [hFm j h] at hj; cases hj
            obtain ⟨T'', h4, h5, _⟩ := hg j _ hjm (Array.getElem?_eq_getElem hjs)
            rw [h1] at h4; cases h4; exact h5
          refine ⟨v', T', h1, ?_, hst' _ _ _ h3 hE⟩
          cases hd : (ops[i]'hi').dst with
          | none => exact h2
          | some d =>
            simp only [Act.put]
            rw [Array.getElem?_setIfInBounds_ne]
            · exact h2
            · intro e
              subst e
              rw [hd] at hdst
              simp only [Bool.and_eq_true, beq_iff_eq] at hdst
              rw [hdst.2] at ht; cases ht; exact hji rfl
    have hFm' : ∀ j, m ≤ j → (L.setIfInBounds i true).getD j false = false := fun j hj => by
      rw [getD_set _ _ _ hiL, if_neg (by omega)]; exact hFm j hj
    unfold wpOpIn
    rw [Array.getElem?_eq_getElem hi']
    simp only []
    by_cases hial : i ∈ al
    · obtain ⟨te, z, hgd, hop, hz, hTz⟩ := hal i hial _ (Array.getElem?_eq_getElem hi')
      rw [hT] at hTz; cases hTz
      have hw : Region.wanted (ops[i]'hi') (yielded ops a.tmps) = true := by simp [Region.wanted, hgd]
      rw [if_pos hw]
      have hrun : (execOp a.eval (ops[i]'hi')).run P w = .ok (.value (ptr w.heap.size)) (w.alloc (.cells z te)) := by
        simp [execOp, hop, hz, go_sem]
      unfold Oper.wpIn
      rw [Oper.semAt_plain F _ _ (noDefer_get hnd (Array.getElem?_eq_getElem hi')), hrun]
      refine ⟨fun f _ => hF.fn f, ?_⟩
      refine ih _ _ _ (hJ' _ _ ((Ext.refl w).alloc _) ⟨_, rfl, Blk.new _ _ _⟩) hFm' ?_ hcount
      have hput : ∀ t, writer ops t = some i → (a.put (ops[i]'hi').dst (ptr w.heap.size)).tmps[t]? = some (ptr w.heap.size) := fun t ht => by
        have hd := (writer_some ht).2
        rw [Array.getElem?_eq_getElem hi'] at hd
        simp only [Option.bind_some] at hd
        rw [hd] at hdst ⊢
        simp only [Bool.and_eq_true, decide_eq_true_eq] at hdst
        have : t < a.tmps.size := by rw [hJ.tmps]; exact hdst.1
        simp [Act.put, this]
      intro k hk hLk t ht
      rw [getD_set _ _ _ hiL] at hLk
      by_cases hki : k = i
      · subst hki
        refine ⟨w.heap.size, hput t ht, ⟨hJ.ext.size, by simp⟩, fun j hj hji hLj t' ht' => ?_⟩
        rw [getD_set _ _ _ hiL, if_neg hji] at hLj
        rw [put_other (a0 := a0) a _ hi' hdst ht' hji]
        obtain ⟨b, h1, h2, _⟩ := hFr j hj hLj t' ht'
        rw [h1]
        intro e
        simp only [Option.some.injEq, Value.pointer.injEq, Addr.mk.injEq, and_true] at e
        omega
      · rw [if_neg hki] at hLk
        obtain ⟨b, h1, h2, h3⟩ := hFr k hk hLk t ht
        refine ⟨b, by rw [put_other (a0 := a0) a _ hi' hdst ht hki]; exact h1, ⟨h2.1, by simp; omega⟩, fun j hj hji hLj t' ht' => ?_⟩
        rw [getD_set _ _ _ hiL] at hLj
        by_cases hj' : j = i
        · subst hj'
          rw [hput t' ht']
          intro e
          simp only [Option.some.injEq, Value.pointer.injEq, Addr.mk.injEq, and_true] at e
          omega
        · rw [if_neg hj'] at hLj
          rw [put_other (a0 := a0) a _ hi' hdst ht' hj']
          exact h3 j hj hji hLj t' ht'
    have hFr' : ∀ v w', Ext w w' → Fr ops al w0 (L.setIfInBounds i true) (a.put (ops[i]'hi').dst v) w' := by
      intro v w' hE k hk hLk t ht
      have hki : k ≠ i := fun e => hial (e ▸ hk)
      rw [getD_set _ _ _ hiL, if_neg hki] at hLk
      obtain ⟨b, h1, h2, h3⟩ := hFr k hk hLk t ht
      refine ⟨b, by rw [put_other (a0 := a0) a _ hi' hdst ht hki]; exact h1, ⟨h2.1, Nat.lt_of_lt_of_le h2.2 hE.size⟩, fun j hj hji hLj t' ht' => ?_⟩
      have hj' : j ≠ i := fun e => hial (e ▸ hj)
      rw [getD_set _ _ _ hiL, if_neg hj'] at hLj
      rw [put_other (a0 := a0) a _ hi' hdst ht' hj']
      exact h3 j hj hji hLj t' ht'
    rcases hstep with ⟨hw, hwp⟩ | ⟨hw, hTu⟩
    · rw [if_pos hw]
      refine Oper.wp_in hF (noDefer_get hnd (Array.getElem?_eq_getElem hi')) ?_ hwp
      rintro a' w' ⟨v, rfl, hE, hTv⟩
      exact ih _ _ _ (hJ' v w' hE hTv) hFm' (hFr' v w' hE) hcount
    · rw [if_neg (by rw [hw]; simp)]
      refine ⟨fun f _ => hF.fn f, ?_⟩
      exact ih _ _ _ (hJ' undef w (Ext.refl _) hTu) hFm' (hFr' undef w (Ext.refl _)) hcount

theorem stepIn_seq (hs : shape ops a0.tmps.size = true) {m : Nat} (hcov : coverW ops m = true) :
    ∀ (fuel k : Nat) (L : Array Bool) (a : Act) (w : World), m ≤ k → k ≤ ops.size → L.size = ops.size → (∀ j, L.getD j false = decide (j < k)) → wpListIn F n P ops Q (ops.toList.drop k) a w →
      ((List.range ops.size).filter fun i => !L.getD i true).length ≤ fuel → wpAnyIn F n P .any ops Q fuel L a w := by
  intro fuel
  induction fuel with
  | zero =>
    intro k L a w hk1 hk2 hL hd hw hf
    have hk : k = ops.size := by
      rcases Nat.lt_or_ge k ops.size with h | h
      · exfalso
        have := mem_count hL h (by rw [hd]; simp)
        rw [List.eq_nil_of_length_eq_zero (Nat.le_zero.1 hf)] at this
        cases this
      · omega
    subst hk
    rw [List.drop_eq_nil_of_le (by simp)] at hw
    refine ⟨?_, hw⟩
    unfold Region.ready
    apply List.eq_nil_iff_forall_not_mem.2
    intro i hi
    rw [List.mem_filter] at hi
    have hi1 : i < ops.size := by simpa using hi.1
    have hiL : i < L.size := by rw [hL]; exact hi1
    have := hd i
    simp [hiL, hi1] at this hi
    rw [this] at hi; simp at hi
  | succ fuel ih =>
    intro k L a w hk1 hk2 hL hd hw hf
    refine ⟨fun hr => ?_, fun i hi => ?_⟩
    · rcases Nat.lt_or_ge k ops.size with h | h
      · exfalso
        have := not_ready_nil hs hL k h (by rw [hd]; simp) (fun j hj => by rw [hd]; simp [hj])
        rw [hr] at this; cases this
      · obtain rfl : k = ops.size := by omega
        rw [List.drop_eq_nil_of_le (by simp)] at hw
        exact hw
    · unfold Region.ready at hi
      rw [List.mem_filter] at hi
      obtain ⟨hir, hib⟩ := hi
      have hi' : i < ops.size := by simpa using hir
      have hiL : i < L.size := by rw [hL]; exact hi'
      rw [Array.getElem?_eq_getElem hi'] at hib
      simp only [Option.map_some, Option.getD_some, Bool.and_eq_true, Bool.not_eq_true'] at hib
      obtain ⟨hiF, hedges⟩ := hib
      have hiF' : L.getD i false = false := by simp [hiL] at hiF ⊢; exact hiF
      have hpre : ∀ e ∈ (ops[i]'hi').after, binds e = true → L.getD e.on false = true := by
        intro e he hb
        have := (Array.all_eq_true'.1 hedges) e he
        simp only [binds] at hb
        simpa [hb] using this
      have hik : k ≤ i := by
        have := hd i
        rw [hiF'] at this
        simpa using this.symm
      obtain rfl : i = k := by
        rcases Nat.lt_or_ge k i with h | h
        · exfalso
          have hc : L.getD k false = true := coveredW hcov (by omega) hi' h hpre (fun j o hj ho e he hb => by
            have hj' : j < k := by rw [hd] at hj; simpa using hj
            have hjs : j < ops.size := by omega
            rw [Array.getElem?_eq_getElem hjs] at ho; cases ho
            have hsj := (List.all_eq_true.1 hs) j (by simpa using hjs)
            rw [Array.getElem?_eq_getElem hjs] at hsj
            simp only [Option.map_some, Option.getD_some, Bool.and_eq_true] at hsj
            have h2 := (Array.all_eq_true'.1 hsj.2) e he
            simp only [hb, Bool.not_true, Bool.false_or, decide_eq_true_eq] at h2
            rw [hd]; simp; omega)
          rw [hd] at hc; simp at hc
        · omega
      have hlist : ops.toList.drop i = (ops[i]'hi') :: ops.toList.drop (i + 1) := by
        rw [List.drop_eq_getElem_cons (by simpa using hi')]; simp
      rw [hlist] at hw
      have hd' : ∀ j, (L.setIfInBounds i true).getD j false = decide (j < i + 1) := fun j => by
        rw [getD_set _ _ _ hiL, hd]
        by_cases h : j = i
        · simp [h]
        · simp only [if_neg h]; congr 1; apply propext; omega
      have hcount : ((List.range ops.size).filter fun k => !(L.setIfInBounds i true).getD k true).length ≤ fuel := by
        have hlt : ((List.range ops.size).filter fun k => !(L.setIfInBounds i true).getD k true).length < ((List.range ops.size).filter fun k => !L.getD k true).length := by
          have hsub : ((List.range ops.size).filter fun k => !(L.setIfInBounds i true).getD k true) = ((List.range ops.size).filter fun k => !L.getD k true).filter (· != i) := by
            rw [List.filter_filter]
            apply List.filter_congr
            intro k hk
            have hk' : k < ops.size := by simpa using hk
            have hkL : k < L.size := by rw [hL]; exact hk'
            by_cases h : k = i
            · subst h; simp [hkL]
            · simp [h, Array.getElem?_setIfInBounds_ne (Ne.symm h)]
          rw [hsub]
          exact List.length_filter_lt_length_iff_exists.2 ⟨i, mem_count hL hi' hiF', by simp⟩
        omega
      unfold wpOpIn
      rw [Array.getElem?_eq_getElem hi']
      simp only []
      unfold wpListIn at hw
      have hnext : ∀ a w, wpListIn F n P ops Q (ops.toList.drop (i + 1)) a w → wpAnyIn F n P .any ops Q fuel (L.setIfInBounds i true) a w :=
        fun a w h => ih (i + 1) _ a w (by omega) (by omega) (by simpa using hL) hd' h hcount
      split at hw
      · rename_i hwant
        rw [if_pos hwant]
        exact Oper.wpIn_mono (fun a w h => hnext a w h) hw
      · rename_i hwant
        rw [if_neg hwant]
        exact ⟨hw.1, hnext _ _ hw.2⟩

theorem wpIn_region_tail {id : Nat} (hF : Plain F) (hnd : noDefer ops = true) (m : Nat) (al : List Nat) (hlow : al.all (fun i => decide (i < m)) = true) (hmo : P.follows .mixedOrders = true) (hs : shape ops a0.tmps.size = true) (hcov : coverW ops m = true) (hm : decide (m ≤ ops.size) = true)
    (h : PassR P ops (onlyN Q) a0 w0.drew (fun Ts => (∀ i ∈ al, ∀ o, ops[i]? = some o → ∃ te z, o.guard = none ∧ o.op = .alloc te ∧ (∀ W, (zeroValue te).run P W = .ok (.agg z) W) ∧ Ts[i]? = some (newK te z)) ∧ ∀ a w, FinalM ops m al a0 w0.drew Ts a w → wpListIn F n P ops Q (ops.toList.drop m) a w) (ops.toList.take m) []) : (Code.region id ops true).wpIn F n P Q a0 w0 := by
  have hm' : m ≤ ops.size := of_decide_eq_true hm
  obtain ⟨Ts, hend, hl, hg⟩ := pass_get _ _ (pass_of_R _ _ h)
  simp only [List.reverse_nil, List.nil_append, List.length_nil, Nat.zero_add] at hend hg
  refine wpIn_region_any hmo (stepIn_tail hF hnd hs hm' hcov (fun i hi => of_decide_eq_true (List.all_eq_true.1 hlow i hi)) hend.1 (fun i o him hi => hg i o (by rw [List.getElem?_take, if_pos him]; simpa using hi))
    (fun fuel L a w hFM hL hd hf => stepIn_seq hs hcov fuel m L a w (Nat.le_refl _) hm' hL hd (hend.2 a w hFM) hf) _ _ _ _ ⟨by simp, ?_, rfl, rfl, Ext.refl _, fun t _ => rfl, ?_⟩ ?_ ?_ (Nat.le_trans (List.length_filter_le _ _) (by simp)))
  · intro j o hj
    exfalso
    by_cases h : j < ops.size <;> simp [h] at hj
  · intro j hj
    exfalso
    by_cases h : j < ops.size <;> simp [h] at hj
  · intro j _
    by_cases h : j < ops.size <;> simp [h]
  · intro i _ hj
    exfalso
    by_cases h : i < ops.size <;> simp [h] at hj
end
end Reg
end Go.Proofs.YtipdmhppadapkaaGreatDoor
/-
  Walk: the iterator ltree.pairs: a level's nodes, two by two.
-/
namespace Go.Proofs.YtipdmhppadapkaaGreatDoor
open Go.RowKit Go.Shelf Sha

attribute [local go_sem] Oper.semAt_some

/-- what a round is handed: a number, and two nodes -/
abbrev Pr := { x : Nat × Nd × Nd // x.1 < 4294967296 ∧ x.2.1.length = 32 ∧ x.2.2.length = 32 }
def prCells (x : Pr) : Array Value := (bcells x.1.2.1 ++ bcells x.1.2.2).toArray
abbrev prEncs (x : Pr) : Array Value := #[.int .u32 (x.1.1 : Nat), .agg (prCells x)]
theorem prCells_size (x : Pr) : (prCells x).size = 64 := by simp [prCells, bcells_length, x.2.2.1, x.2.2.2]
def prOf (ns : List Nd) (i : Nat) : Pr :=
  if h : i < 4294967296 ∧ (at_ ns (2 * i)).length = 32 ∧ (at_ ns (2 * i + 1)).length = 32 then ⟨(i, at_ ns (2 * i), at_ ns (2 * i + 1)), h⟩ else ⟨(0, znode, znode), by decide, by simp [znode], by simp [znode]⟩
theorem prOf_eq {ns : List Nd} (h32 : All32 ns) {i : Nat} (hi : 2 * i + 1 < ns.length) (hl : ns.length ≤ 2000) : (prOf ns i).1 = (i, at_ ns (2 * i), at_ ns (2 * i + 1)) := by
  unfold prOf
  rw [dif_pos ⟨by omega, h32.at_ (by omega), h32.at_ (by omega)⟩]
theorem prEncs_eq {ns : List Nd} (h32 : All32 ns) {i : Nat} (hi : 2 * i + 1 < ns.length) (hl : ns.length ≤ 2000) :
    prEncs (prOf ns i) = #[.int .u32 (i : Nat), .agg (bcells (at_ ns (2 * i)) ++ bcells (at_ ns (2 * i + 1))).toArray] := by
  have := prOf_eq h32 hi hl
  simp only [prEncs, prCells, this]

/-- the box of the slice lies as it lay, and so does all below -/
def KB (B n0 : Nat) (W W' : World) : Prop := W'.heap[B]? = W.heap[B]? ∧ Below n0 W W'
theorem KB.refl (B n0 : Nat) (W : World) : KB B n0 W W := ⟨rfl, Below.refl _ _⟩
theorem KB.trans {B n0 : Nat} {X Y Z : World} (h : KB B n0 X Y) (k : KB B n0 Y Z) : KB B n0 X Z := ⟨k.1.trans h.1, h.2.trans k.2⟩
theorem run_build_arr {P : Program} (w : World) {t e : TypeId} {n s : Nat} {z : Array Value} (parts : Array (Nat × Value)) (vs : List Value) (hu : P.underlying t = some (.array n e))
    (hz : (P.info? t).map (·.zero) = some (some (.agg z))) (hs : (P.info? e).map (·.size) = some s) (h0 : 0 < s) (hparts : parts.toList = vs.zipIdx.map fun x => (x.2, x.1)) (h1 : ∀ v ∈ vs, v.cells.size = s) (hn : vs.length * s = z.size) :
    (Instr.build t parts).run P w = .ok (.agg (flat vs).toArray) w := by
  refine run_build w t parts _ ?_
  obtain ⟨i, hi, hz⟩ := Option.map_eq_some_iff.1 hz
  obtain ⟨ie, hie, hs⟩ := Option.map_eq_some_iff.1 hs
  unfold Program.built
  simp only [hi, hu, hz, hie, hs, hparts]
  exact Great.fill_whole h0 vs _ h1 hn
def z64 : Array Value := (List.replicate 64 (Value.int .u8 0)).toArray
theorem run_pair (w : World) (a b : Nd) (ha : a.length = 32) (hb : b.length = 32) : (Instr.build 200 #[(0, .agg (bcells a).toArray), (1, .agg (bcells b).toArray)]).run Tryz.prog w = .ok (.agg (bcells a ++ bcells b).toArray) w := by
  have := run_build_arr (P := Tryz.prog) w (t := 200) (z := z64) #[(0, .agg (bcells a).toArray), (1, .agg (bcells b).toArray)] [.agg (bcells a).toArray, .agg (bcells b).toArray] Tryz.underlying200
    (by kernel_rfl) infNode (by omega) rfl (by simp [Value.cells, bcells_length, ha, hb]) (by simp [z64])
  rw [this]
  simp [flat, Value.cells]

set_option maxRecDepth 100000 in
set_option maxHeartbeats 400000 in
theorem pairs_in (F : Fence) (n : Nat) (h8 : F.fn 151) (hro : F.round = none) (v : Value) (hv : v.oneCell' = true) (A : Option Addr) (m c : Nat) (hvv : v = .slice A m c) (w : World) :
    CallsIn F n Tryz.prog 151 #[v] w fun e w' => e = .returned (.func (.func 172) #[] #[.pointer (some ⟨w.heap.size, 0, none⟩)]) ∧ w' = w.alloc (.cells #[v] 100) := by
  subst hvv
  refine callsIn_of_wp Tryz.func151 rfl h8 ?_ hro
  simp only [Tryz.ntmps151, List.size_toArray, List.length_cons, List.length_nil, Nat.reduceAdd, Nat.reduceSub, Array.replicate_succ, Array.replicate_zero, List.push_toArray, List.append_toArray, List.nil_append, List.cons_append]
  gi_wp2
  go_ret
  exact ⟨rfl, rfl⟩

set_option maxRecDepth 100000 in
set_option maxHeartbeats 4000000 in
theorem pairs1_in (n l Bs n0 : Nat) (hn : 1 ≤ n) (ab ao cc0 : Nat) (ns : List Nd) (h32 : All32 ns) (hl : ns.length ≤ 2000) (hab : ab < n0) (Jv Jx : List Pr → World → Prop) (W : World) (hAb : AbidesFrom W.heap.size Jv)
    (hY : ∀ pre x W, Jv pre W → pre.length < 1000 → YieldAt Fence.wide (n - 1) Tryz.prog l (prEncs x) W fun e W' =>
      (e = .returned (.bool true) ∧ Jv (pre ++ [x]) W' ∧ KB Bs n0 W W') ∨ (e = .returned (.bool false) ∧ Jx (pre ++ [x]) W'))
    (hn0 : n0 ≤ W.heap.size) (hrg : W.rangeAt ab ao (ncells ns)) (hBs : Blk W Bs 100 #[.slice (some ⟨ab, ao, none⟩) ns.length cc0]) (h0 : Jv [] W) :
    CallsIn Fence.wide n Tryz.prog 172 #[.func (.yield l) #[] #[], .pointer (some ⟨Bs, 0, none⟩)] W fun e W' => (∃ v, e = .returned v) ∧
      ((∃ ys, ys = upto (prOf ns) (ns.length / 2) ∧ Jv ys W') ∨ (∃ pre, pre <+: upto (prOf ns) (ns.length / 2) ∧ Jx pre W')) := by
  have H32 := Lib.hid h32
  obtain ⟨N, hN⟩ : ∃ N, N = ns.length := ⟨_, rfl⟩
  have HN := Lib.hid hN
  rw [← hN] at hl hBs ⊢
  clear hN h32
  have hBl := hBs.lt
  have hdiv : (N : Int).tdiv 2 = ((N / 2 : Nat) : Int) := by rw [Int.tdiv_eq_ediv_of_nonneg (by omega)]; omega
  refine callsIn_of_wp Tryz.func172 rfl trivial ?_ rfl
  simp only [Tryz.ntmps172, List.size_toArray, List.length_cons, List.length_nil, Nat.reduceAdd, Nat.reduceSub, Array.replicate_succ, Array.replicate_zero, List.push_toArray, List.append_toArray, List.nil_append, List.cons_append]
  have hbc : W.cell? ⟨Bs, 0, none⟩ = some (.slice (some ⟨ab, ao, none⟩) N cc0) := (hBs.cell 0).trans rfl
  gi_wp2
  gi_loopw [7] (fun i wr => ∃ k : Nat, k ≤ N / 2 ∧ i = .int .i64 k ∧ Jv (upto (prOf ns) k) wr ∧ KB Bs n0 W wr) (fun i _ => N / 2 - (intOf i).toNat)
  case atStart => exact ⟨0, Nat.zero_le _, rfl, h0, KB.refl _ _ _⟩
  case round =>
    obtain ⟨k, hk, rfl, hJs, hK⟩ := hrel
    by_cases hlt : k < N / 2
    · obtain ⟨p, hp⟩ : ∃ p, p = 2 * k := ⟨_, rfl⟩
      obtain ⟨p1, hp1⟩ : ∃ p, p = 2 * k + 1 := ⟨_, rfl⟩
      have hpN : p < ns.length := by have := HN.out; omega
      have hp1N : p1 < ns.length := by have := HN.out; omega
      have hx0 := (range_node hrg H32.out p hpN).later hK.2 hab
      have hy0 := (range_node hrg H32.out p1 hp1N).later hK.2 hab
      have hxl := H32.out _ (List.getElem_mem hpN)
      have hyl := H32.out _ (List.getElem_mem hp1N)
      have henc0 := prEncs_eq H32.out (i := k) (by omega) (by have := HN.out; omega)
      rw [at_get ns (2 * k) (by omega), at_get ns (2 * k + 1) (by omega)] at henc0
      obtain ⟨x1, hx1⟩ : ∃ x, x = ns[p] := ⟨_, rfl⟩
      obtain ⟨x2, hx2⟩ : ∃ x, x = ns[p1] := ⟨_, rfl⟩
      have henc : prEncs (prOf ns k) = #[.int .u32 (k : Nat), .agg (bcells x1 ++ bcells x2).toArray] := by
        rw [henc0, hx1, hx2]
        subst hp hp1
        rfl
      rw [← hx1] at hx0 hxl
      rw [← hx2] at hy0 hyl
      have x1L := Lib.hid hxl
      have x2L := Lib.hid hyl
      have Henc := Lib.hid henc
      have hpi : (p : Int) < (N : Int) := by omega
      have hp1i : (p1 : Int) < (N : Int) := by omega
      have hw2k : IntKind.i64.wrap (2 * (k : Int)) = (p : Int) := by rw [IntKind.wrap_i64]; omega
      have hwp1 : IntKind.i64.wrap ((p : Int) + 1) = (p1 : Int) := by rw [IntKind.wrap_i64]; omega
      have hwk : IntKind.u32.wrap (k : Int) = (k : Int) := IntWalk.u32_in _ (by omega)
      have hB9 : Blk wr.drew Bs 100 #[.slice (some ⟨ab, ao, none⟩) N cc0] := hK.1.trans hBs
      have habr : ab < wr.drew.heap.size := Nat.lt_of_lt_of_le hab (Nat.le_trans hn0 hK.2.size)
      have hx0 : wr.drew.rangeAt ab (ao + p * 32) (bcells x1) := hx0
      have hy0 : wr.drew.rangeAt ab (ao + p1 * 32) (bcells x2) := hy0
      clear henc henc0 hxl hyl hx1 hx2 hpN hp1N hp hp1
      gi_wp2
      refine Reg.wpIn_region_tail Plain.wide (by kernel_rfl) 15 [] (by kernel_rfl) (by kernel_rfl) (by kernel_rfl) (by kernel_rfl) (by kernel_rfl) ?_
      refine Reg.pass_old (X := .func (.yield l) #[] #[]) 0 (Reg.met_none rfl) (.inl rfl) (by kernel_rfl) (by kernel_rfl) rfl ?_
      refine Reg.pass_old (X := .int .i64 (k : Nat)) 3 (Reg.met_none rfl) (.inl rfl) (by kernel_rfl) (by kernel_rfl) rfl ?_
      refine Reg.pass_val (.int .u32 (k : Int)) (Reg.met_none rfl) (fun a W hE hS => ?_) ?_
      · have e0 := Reg.see_new 11 1 hS (by kernel_rfl) (by kernel_rfl) rfl rfl
        go_simp; first | done | rfl | rw [hwk]
      refine Reg.pass_val (.slice (some ⟨ab, ao, none⟩) N cc0) (Reg.met_none rfl) (fun a W hE hS => ?_) ?_
      · have e0 := Reg.see_old 1 hS (by kernel_rfl) (by kernel_rfl) rfl
        have cc : World.cell? W ⟨Bs, 0, none⟩ = some (.slice (some ⟨ab, ao, none⟩) N cc0) := ((hB9.ext hE).cell 0).trans rfl; go_simp
      refine Reg.pass_old (X := .int .i64 (k : Nat)) 3 (Reg.met_none rfl) (.inl rfl) (by kernel_rfl) (by kernel_rfl) rfl ?_
      refine Reg.pass_val (.int .i64 (p : Int)) (Reg.met_none rfl) (fun a W hE hS => ?_) ?_
      · have e0 := Reg.see_new 14 4 hS (by kernel_rfl) (by kernel_rfl) rfl rfl
        go_simp; first | done | rfl | rw [hw2k]
      refine Reg.pass_val (.pointer (some ⟨ab, ao + p * 32, none⟩)) (Reg.met_none rfl) (fun a W hE hS => ?_) ?_
      · have e0 := Reg.see_new 13 3 hS (by kernel_rfl) (by kernel_rfl) rfl rfl
        have e1 := Reg.see_new 15 5 hS (by kernel_rfl) (by kernel_rfl) rfl rfl
        go_simp
      refine Reg.pass_val (.agg (bcells x1).toArray) (Reg.met_none rfl) (fun a W hE hS => ?_) ?_
      · have e0 := Reg.see_new 16 6 hS (by kernel_rfl) (by kernel_rfl) rfl rfl
        exact reg_loadRange 39 _ rfl e0 (hx0.later hE habr) Tryz.underlying39 rfl (by rw [List.size_toArray, bcells_length, x1L.out]; exact infNode)
      refine Reg.pass_val (.slice (some ⟨ab, ao, none⟩) N cc0) (Reg.met_none rfl) (fun a W hE hS => ?_) ?_
      · have e0 := Reg.see_old 1 hS (by kernel_rfl) (by kernel_rfl) rfl
        have cc : World.cell? W ⟨Bs, 0, none⟩ = some (.slice (some ⟨ab, ao, none⟩) N cc0) := ((hB9.ext hE).cell 0).trans rfl; go_simp
      refine Reg.pass_old (X := .int .i64 (k : Nat)) 3 (Reg.met_none rfl) (.inl rfl) (by kernel_rfl) (by kernel_rfl) rfl ?_
      refine Reg.pass_val (.int .i64 (p : Int)) (Reg.met_none rfl) (fun a W hE hS => ?_) ?_
      · have e0 := Reg.see_new 19 9 hS (by kernel_rfl) (by kernel_rfl) rfl rfl
        go_simp; first | done | rfl | rw [hw2k]
      refine Reg.pass_val (.int .i64 (p1 : Int)) (Reg.met_none rfl) (fun a W hE hS => ?_) ?_
      · have e0 := Reg.see_new 20 10 hS (by kernel_rfl) (by kernel_rfl) rfl rfl
        go_simp; first | done | rfl | rw [hwp1]
      refine Reg.pass_val (.pointer (some ⟨ab, ao + p1 * 32, none⟩)) (Reg.met_none rfl) (fun a W hE hS => ?_) ?_
      · have e0 := Reg.see_new 18 8 hS (by kernel_rfl) (by kernel_rfl) rfl rfl
        have e1 := Reg.see_new 21 11 hS (by kernel_rfl) (by kernel_rfl) rfl rfl
        go_simp
      refine Reg.pass_val (.agg (bcells x2).toArray) (Reg.met_none rfl) (fun a W hE hS => ?_) ?_
      · have e0 := Reg.see_new 22 12 hS (by kernel_rfl) (by kernel_rfl) rfl rfl
        exact reg_loadRange 39 _ rfl e0 (hy0.later hE habr) Tryz.underlying39 rfl (by rw [List.size_toArray, bcells_length, x2L.out]; exact infNode)
      refine Reg.pass_val (.agg (bcells x1 ++ bcells x2).toArray) (Reg.met_none rfl) (fun a W hE hS => ?_) ?_
      · have e0 := Reg.see_new 17 7 hS (by kernel_rfl) (by kernel_rfl) rfl rfl
        have e1 := Reg.see_new 23 13 hS (by kernel_rfl) (by kernel_rfl) rfl rfl
        exact Flow.reg_build _ rfl (by simp [Act.eval, e0, e1]) (run_pair W x1 x2 x1L.out x2L.out)
      refine ⟨(fun i hi => by cases hi), ?_⟩
      refine Reg.tail_end [none, none, none, none, none, none, none, none, none, none, some 10, some 11, some 12, some 13, some 14, some 15, some 16, some 17, some 18, some 19, some 20, some 21, some 22, some 23, some 24, none, none, none] (by kernel_rfl) ?_
      intro ff w9 hE hf hfr
      have h10 : ff 10 = _ := hf 10 0 _ (by kernel_rfl) (by decide) rfl
      have h11 : ff 11 = _ := hf 11 1 _ (by kernel_rfl) (by decide) rfl
      have h12 : ff 12 = _ := hf 12 2 _ (by kernel_rfl) (by decide) rfl
      have h13 : ff 13 = _ := hf 13 3 _ (by kernel_rfl) (by decide) rfl
      have h14 : ff 14 = _ := hf 14 4 _ (by kernel_rfl) (by decide) rfl
      have h15 : ff 15 = _ := hf 15 5 _ (by kernel_rfl) (by decide) rfl
      have h16 : ff 16 = _ := hf 16 6 _ (by kernel_rfl) (by decide) rfl
      have h17 : ff 17 = _ := hf 17 7 _ (by kernel_rfl) (by decide) rfl
      have h18 : ff 18 = _ := hf 18 8 _ (by kernel_rfl) (by decide) rfl
      have h19 : ff 19 = _ := hf 19 9 _ (by kernel_rfl) (by decide) rfl
      have h20 : ff 20 = _ := hf 20 10 _ (by kernel_rfl) (by decide) rfl
      have h21 : ff 21 = _ := hf 21 11 _ (by kernel_rfl) (by decide) rfl
      have h22 : ff 22 = _ := hf 22 12 _ (by kernel_rfl) (by decide) rfl
      have h23 : ff 23 = _ := hf 23 13 _ (by kernel_rfl) (by decide) rfl
      have h24 : ff 24 = _ := hf 24 14 _ (by kernel_rfl) (by decide) rfl
      clear hf hfr 
      have hJ9 : Jv (upto (prOf ns) k) w9 := hAb _ _ _ none hJs ⟨hE.os, hE.tape, hE.output, hE.size, fun k hk _ => hE.block k hk⟩ (fun r e => by cases e)
      have hK9 : KB Bs n0 W w9 := ⟨(hE.block Bs hB9.lt).trans hK.1, hK.2.drew.trans (hE.mono (Nat.le_trans hn0 hK.2.size))⟩
      have hyy := hY _ (prOf ns k) w9 hJ9 (by rw [upto_length]; omega)
      rw [Henc.out] at hyy
      obtain ⟨fn, tmps, assign, body, hy, hR⟩ := hyy
      clear hE hJs hx0 hy0 hB9 habr hw2k hwp1
      simp only [Reg.sel, h10, h11, h12, h13, h14, h15, h16, h17, h18, h19, h20, h21, h22, h23, h24, List.drop_succ_cons, List.drop_zero]
      gi_wp2
      refine hR.mono ?_
      rintro e W3 (⟨rfl, hJ3, hk3⟩ | ⟨rfl, hJx3⟩)
      · gi_wp2
        go_roundw
        case rel => exact ⟨k + 1, by omega, by simp, by rw [upto_succ]; exact hJ3, hK9.trans hk3⟩
        case measure => simp [intOf]; omega
      · gi_wp2
        refine bodyPost_ret (results_none rfl _ _ _) rfl ?_
        exact ⟨⟨_, rfl⟩, .inr ⟨_, by rw [← upto_succ]; exact upto_prefix _ (by omega), hJx3⟩⟩
    · obtain rfl : k = N / 2 := by omega
      gi_wp2
      go_end0
      exact ⟨⟨_, rfl⟩, .inl ⟨_, rfl, hJs⟩⟩
end Go.Proofs.YtipdmhppadapkaaGreatDoor
/-
  Walk: ltree.up: a level of nodes, joined two by two.
-/
namespace Go.Proofs.YtipdmhppadapkaaGreatDoor
open Go.RowKit Go.Shelf Sha

attribute [local go_sem] Oper.semAt_some

theorem pairs_stops (Bs n0 ab ao cc0 : Nat) (ns : List Nd) (h32 : All32 ns) (hl : ns.length ≤ 2000) (hab : ab < n0) (w : World) (hn0 : n0 ≤ w.heap.size) (hrg : w.rangeAt ab ao (ncells ns)) (hBs : Blk w Bs 100 #[.slice (some ⟨ab, ao, none⟩) ns.length cc0]) :
    SeqStopsK Fence.wide 5 Tryz.prog 172 #[.pointer (some ⟨Bs, 0, none⟩)] prEncs (KB Bs n0) (fun ys => ys = upto (prOf ns) (ns.length / 2)) (fun pre => pre <+: upto (prOf ns) (ns.length / 2)) 1000 w := fun l Jv Jx W hW hAb _ hY h0 =>
  pairs1_in 5 l Bs n0 (by omega) ab ao cc0 ns h32 hl hab Jv Jx W hAb hY (Nat.le_trans hn0 hW.size) (hrg.later hW (Nat.lt_of_lt_of_le hab hn0)) (hBs.below hW hBs.lt) h0

section
variable {F : Fence} {n' : Nat} {P : Program} {ops : Array Oper} {rest : List Oper} {o : Oper} {a : Act} {Q : Exit → Act → World → Prop}
theorem wpListIn_makeN (w : World) {t e : TypeId} {z : Value} {size bytes : Nat} (E : Elem P t e z size bytes) (hg : o.guard = none) (l c : Operand) (hop : o.op = Op.makeSlice t l c)
    (kl kc : IntKind) (L C : Int) (n m : Nat) (hl : a.eval l = .int kl L) (hc : a.eval c = .int kc C) (hL : L = (n : Int)) (hC : C = (m : Int)) (hnm : n ≤ m)
    (b2 : bytes * m ≤ 281474976710656) (b3 : m ≤ 9223372036854775807)
    (hK : ∀ w', Blk w' w.heap.size e (madeCells z.cells (m * size)) → w'.heap.size = w.heap.size + 1 → Below w.heap.size w w' → wpListIn F n' P ops Q rest (a.put o.dst (.slice (some ⟨w.heap.size, 0, none⟩) n m)) w') :
    wpListIn F n' P ops Q (o :: rest) a w := by
  obtain ⟨i, h2, h3, h4, h5⟩ := E.info
  refine wpListIn_plain hg fun K hK' => ?_
  have hb : (i.bytes : Int) * (m : Int) ≤ 281474976710656 := by
    have h : ((i.bytes * m : Nat) : Int) ≤ 281474976710656 := by rw [h5]; omega
    rwa [Int.natCast_mul] at h
  have hrun := run_make (P := P) w t e i z E.under h2 h3 kl kc n m (by omega) (by omega) hb (by omega)
  simp only [Int.toNat_natCast] at hrun
  subst hL
  subst hC
  unfold Oper.wpIn
  refine ⟨by simp [Oper.about, hop], ?_⟩
  rw [Oper.semAt_plain F _ _ (by rw [hop]; intro c hc'; cases hc')]
  simp [execOp, hop, hl, hc, hrun]
  refine hK' _ _ (hK _ ?_ (by simp) ((Below.refl _ _).alloc (Nat.le_refl _) _))
  rw [h4]; exact Blk.new _ _ _
end
section
variable {F : Fence} {n : Nat} {P : Program} {ops : Array Oper} {rest : List Oper} {a : Act} {w : World} {Q : Exit → Act → World → Prop} {dst : Option Tmp} {ty : TypeId} {pos : String} {aft : Array Edge} {gd : Option (Nat × Bool)}
theorem atIn_makeSlice (t : TypeId) {x c : Operand} (h : wpListIn F n P ops Q (⟨dst, .makeSlice t x c, ty, pos, aft, gd⟩ :: rest) a w) : wpListIn F n P ops Q (⟨dst, .makeSlice t x c, ty, pos, aft, gd⟩ :: rest) a w := h
theorem atIn_store (t : TypeId) {x y : Operand} (h : wpListIn F n P ops Q (⟨dst, .store t x y, ty, pos, aft, gd⟩ :: rest) a w) : wpListIn F n P ops Q (⟨dst, .store t x y, ty, pos, aft, gd⟩ :: rest) a w := h
end

theorem kept_others {Z : Nat → Prop} {W0 : World} (h : ∀ b o, Z b → W0.heap[b]? = some o → o.isCells = true) : Flow.Kept Z (fun W => KeepsOthers W0 W) := fun w w' c hk =>
  ⟨Nat.le_trans hk.size c.size, fun k o hk0 ho => by
    have h1 := hk.same k o hk0 ho
    refine (c.block k (Array.getElem?_eq_some_iff.1 h1).1 fun hz => ?_).trans h1
    have := h k o hz hk0
    rw [ho] at this; cases this⟩
theorem blk_cells {w : World} {g b : Nat} {t : TypeId} {cs : Array Value} (h : Blk w g t cs) {o : Obj} (hb : b = g) (ho : w.heap[b]? = some o) : o.isCells = true := by
  subst hb
  rw [show w.heap[b]? = some (.cells cs t (0, 0)) from h] at ho
  cases ho; rfl
theorem own_cells {w : World} {base size n : Nat} {e : TypeId} {v : Value} {xs : List Value} (h : w.ownsRow base e size v n xs) {b : Nat} {o : Obj} (hb : v.ownBlock = some b) (ho : w.heap[b]? = some o) : o.isCells = true := by
  rcases h.2 with ⟨rfl, _⟩ | ⟨g, cap, cur, rfl, _, hh, _⟩
  · cases hb
  · cases hb
    rw [hh] at ho
    cases ho; rfl
theorem own_kept {w w' : World} {base size n : Nat} {e : TypeId} {v : Value} {xs : List Value} {row : Option Nat} (h : w.ownsRow base e size v n xs) (hg : w.grownBy w' row) (hr : ∀ r, row = some r → ∃ o : Obj, w.heap[r]? = some o ∧ o.isCells = false) : w'.ownsRow base e size v n xs :=
  own_chg h (Chg.grown (Z := fun k => row = some k) hg (fun k e => e)) fun k hv hz => by
    obtain ⟨o, ho, hc⟩ := hr k hz
    rw [own_cells h hv ho] at hc; cases hc

theorem inf60 : (Tryz.prog.info? 200).map (·.size) = some 64 := by kernel_rfl
theorem pr_one (x : Pr) : ∀ v ∈ (prCells x).toList, v.oneCell' = true := by
  intro v hv
  simp only [prCells, List.mem_append] at hv
  rcases hv with hv | hv <;> exact bcells_one _ v hv

theorem ncells_one {ns : List Nd} : ∀ u ∈ ncells ns, u.oneCell' = true := by
  intro u hu
  simp only [ncells, List.mem_flatten, List.mem_map] at hu
  obtain ⟨l, ⟨x, _, rfl⟩, hu⟩ := hu
  exact bcells_one x u hu
/-- the caller's own cells between two rounds -/
structure UpI (w : World) (ab ao N cc0 : Nat) (FV : Value) (jn : Pr → Nd) (pre : List Pr) (W : World) : Prop where
  S : ∃ A c, Blk W (w.heap.size + 2) 100 #[.slice A pre.length c] ∧ W.ownsRow (w.heap.size + 1) 39 32 (.slice A pre.length c) pre.length (ncells (pre.map jn))
  F : Blk W w.heap.size 202 #[FV]
  Bx : Blk W (w.heap.size + 3) 100 #[.slice (some ⟨ab, ao, none⟩) N cc0]
  B : Below w.heap.size w W
theorem UpI.new {w W W' : World} {ab ao N cc0 : Nat} {FV : Value} {jn : Pr → Nd} {pre : List Pr} (h : UpI w ab ao N cc0 FV jn pre W) (c : Chg (fun b => b = W.heap.size) W W') : UpI w ab ao N cc0 FV jn pre W' := by
  obtain ⟨⟨A, k, h1, h2⟩, h3, h4, h5⟩ := h
  have l1 := h1.lt
  have l3 := h3.lt
  have l4 := h4.lt
  exact ⟨⟨A, k, h1.chg c (show ¬ _ = _ by omega), own_chg h2 c (fun b hb e => by have := (h2.lt b hb).2; have e : b = W.heap.size := e; omega)⟩, h3.chg c (show ¬ _ = _ by omega), h4.chg c (show ¬ _ = _ by omega), h5.trans (c.below (fun b hb => by have hb : b = W.heap.size := hb; omega) (by omega))⟩
theorem UpI.kept {w W W' : World} {ab ao N cc0 : Nat} {FV : Value} {jn : Pr → Nd} {pre : List Pr} {row : Option Nat} {B : Nat} (h : UpI w ab ao N cc0 FV jn pre W) (hB : w.heap.size ≤ B) (hg : W.grownBy W' row) (hr : ∀ r, row = some r → B ≤ r ∧ ∃ o : Obj, W.heap[r]? = some o ∧ o.isCells = false) : UpI w ab ao N cc0 FV jn pre W' := by
  obtain ⟨⟨A, k, h1, h2⟩, h3, h4, h5⟩ := h
  have hr2 := fun r e => (hr r e).2
  exact ⟨⟨A, k, h1.kept hg hr2, own_kept h2 hg hr2⟩, h3.kept hg hr2, h4.kept hg hr2, h5.grown hg h5.size (fun r e => Nat.le_trans hB (hr r e).1)⟩
/-- the frame of a round -/
def upAx (w : World) (ab ao N cc0 K : Nat) (caps : Array Value) (x : Pr) (a' : Act) (W : World) : Prop :=
  ∃ g7, Blk W g7 200 (prCells x) ∧ a' = { tmps := #[.slice (some ⟨ab, ao, none⟩) N cc0, .func (.func K) #[] caps, undef, .pointer (some ⟨w.heap.size, 0, none⟩), .slice none 0 0, .pointer (some ⟨w.heap.size + 1 + 1, 0, none⟩), .int .u32 (x.1.1 : Nat), .pointer (some ⟨g7, 0, none⟩),
    .slice (some ⟨ab, ao, none⟩) N cc0, .int .i64 (N : Int), .int .i64 ((N : Int) / 2), .int .i64 ((N : Int) / 2 + 1), .slice (some ⟨w.heap.size + 1, 0, none⟩) 0 (N / 2 + 1), .slice (some ⟨ab, ao, none⟩) N cc0, .func (.func 172) #[] #[.pointer (some ⟨w.heap.size + 1 + 1 + 1, 0, none⟩)],
    .int .u32 (x.1.1 : Nat), .agg (prCells x), undef, undef, undef, undef, undef, undef, undef, undef, undef, undef, undef, undef, undef, undef, undef], defers := [] }

set_option maxRecDepth 100000 in
set_option maxHeartbeats 4000000 in
theorem up_any (K : FuncId) (fn : Func) (cd : Code) (hf : Tryz.prog.funcs[K]? = some fn) (hb : fn.body = some cd) (hname : (fn.name == "runtime.NumGoroutine") = false) (caps : Array Value) (join : Nat → Nd → Nd → Nd) (hj : ∀ i a b, (join i a b).length = 32)
    (A0 : Option Addr) (N cc0 : Nat) (ns : List Nd) (h32 : All32 ns) (hN : N = ns.length) (h1 : 1 ≤ N) (h1000 : N ≤ 1000) (hcc : N ≤ cc0) (w : World) (hR : Rd w w.heap.size 32 A0 N (ncells ns))
    (hcall : ∀ (x : Pr) W, Below w.heap.size w W → Calls Tryz.prog K (prEncs x ++ caps) W fun e w' => e = .returned (.agg (bcells (join x.1.1 x.1.2.1 x.1.2.2)).toArray) ∧ Below W.heap.size W w') :
    Calls Tryz.prog 123 #[.slice A0 N cc0, .func (.func K) #[] caps] w (NodesRet w (upL join ns)) := by
  obtain ⟨ab, ao, rfl, hab, hrg⟩ := hR.range (by omega)
  have Hf := Lib.hid hf
  have Hb := Lib.hid hb
  have Hname := Lib.hid hname
  have Hcall := Lib.hid hcall
  have H32 := Lib.hid h32
  have HN := Lib.hid hN
  clear hf hb hname hcall h32 hN
  have hdiv : (N : Int).tdiv 2 = ((N / 2 : Nat) : Int) := by rw [Int.tdiv_eq_ediv_of_nonneg (by omega)]; omega
  obtain ⟨C, hC⟩ : ∃ C, C = N / 2 + 1 := ⟨_, rfl⟩
  have hadd : IntKind.i64.wrap (((N / 2 : Nat) : Int) + 1) = (C : Int) := by rw [IntKind.wrap_i64]; omega
  refine (callsIn_wide (n := 6)).1 ?_
  refine callsIn_of_wp_marks Tryz.func123 rfl trivial ?_ rfl
  simp only [Tryz.ntmps123, List.size_toArray, List.length_cons, List.length_nil, Nat.reduceAdd, Nat.reduceSub, Array.replicate_succ, Array.replicate_zero, List.push_toArray, List.append_toArray, List.nil_append, List.cons_append]
  gi_wp2_with ((with_reducible refine atIn_makeSlice 100 ?_); refine wpListIn_makeN _ elNz rfl _ _ rfl .i64 .i64 0 ((N : Int) / 2 + 1) 0 C rfl rfl rfl (by omega) (by omega) (by omega) (by omega) ?_; intro w1 hb1 hs1 hB1)
  refine ⟨trivial, (pairs_in Fence.wide 5 trivial rfl _ rfl (some ⟨ab, ao, none⟩) N cc0 rfl _).mono ?_⟩
  rintro e w' ⟨rfl, rfl⟩
  gi_wp2_with fail
  obtain ⟨jn, hjn⟩ : ∃ jn : Pr → Nd, jn = fun x => join x.1.1 x.1.2.1 x.1.2.2 := ⟨_, rfl⟩
  have hjl : ∀ x, (jn x).length = 32 := fun x => by rw [hjn]; exact hj _ _ _
  have Hcall : Hid (∀ (x : Pr) W, Below w.heap.size w W → Calls Tryz.prog K (prEncs x ++ caps) W fun e w' => e = .returned (.agg (bcells (jn x)).toArray) ∧ Below W.heap.size W w') := Lib.hid (by rw [hjn]; exact Hcall.out)
  have HJ := Lib.hid hjn
  subst hC
  clear hjn hadd
  have hs1' : w1.heap.size = w.heap.size + 2 := by rw [hs1]; simp
  have hsW : (w.alloc (.cells #[.func (.func K) #[] caps] 202)).heap.size = w.heap.size + 1 := by simp
  rw [hsW] at hb1 hB1
  obtain ⟨W2, hW2⟩ : ∃ W2, W2 = (w1.alloc (.cells #[.slice (some ⟨w.heap.size + 1, 0, none⟩) 0 (N / 2 + 1)] 100)).alloc (.cells #[.slice (some ⟨ab, ao, none⟩) N cc0] 100) := ⟨_, rfl⟩
  have hs2 : W2.heap.size = w.heap.size + 4 := by rw [hW2]; simp [hs1']
  have B1 : Below w.heap.size w w1 := ((Below.refl _ w).alloc (Nat.le_refl _) _).trans (hB1.mono (by omega))
  have hf1 : Blk w1 w.heap.size 202 #[.func (.func K) #[] caps] := (Blk.new w _ _).below hB1 (by omega)
  have hI0 : UpI w ab ao N cc0 (.func (.func K) #[] caps) jn [] W2 := by
    rw [hW2]
    refine ⟨⟨some ⟨w.heap.size + 1, 0, none⟩, N / 2 + 1, ?_, ?_⟩, (hf1.alloc _).alloc _, ?_, (B1.alloc (by omega) _).alloc (by simp; omega) _⟩
    · have := (Blk.new w1 100 #[.slice (some ⟨w.heap.size + 1, 0, none⟩) 0 (N / 2 + 1)]).alloc (.cells #[.slice (some ⟨ab, ao, none⟩) N cc0] 100)
      rw [hs1'] at this; exact this
    · have := ((hb1.alloc (.cells #[.slice (some ⟨w.heap.size + 1, 0, none⟩) 0 (N / 2 + 1)] 100)).alloc (.cells #[.slice (some ⟨ab, ao, none⟩) N cc0] 100)).own (base := w.heap.size + 1) (size := 32) (n := 0) (m := N / 2 + 1) (Nat.le_refl _) (by rw [size_madeCells]) (by omega) (by omega)
      simpa [ncells] using this
    · have := Blk.new (w1.alloc (.cells #[.slice (some ⟨w.heap.size + 1, 0, none⟩) 0 (N / 2 + 1)] 100)) 100 #[.slice (some ⟨ab, ao, none⟩) N cc0]
      rw [World.size_alloc, hs1'] at this; exact this
  have hz60 : ∀ W, (zeroValue 200).run Tryz.prog W = .ok (.agg z64) W := fun W => by kernel_rfl
  rw [← hW2]
  clear hW2 hb1 hB1 hs1 hs1' hsW B1 hf1
  have hp2 : w.heap.size ≤ W2.heap.size := by omega
  refine wpIn_rangeFunc_ownH rfl (by omega) (gf := 172) (lb := #[.pointer (some ⟨w.heap.size + 3, 0, none⟩)]) rfl trivial (enters_of Tryz.func172 (by kernel_rfl) rfl)
    (pairs_stops (w.heap.size + 3) w.heap.size ab ao cc0 ns H32.out (by have := HN.out; omega) hab W2 hp2 (hrg.later hI0.B hab) (by rw [← HN.out]; exact hI0.Bx)) (fun h k => h.trans k)
    (fun W l o o' hl h h1 h2 => ⟨World.putObj_heap_other (by omega), belowK_b (w := W2) hp2 W l o o' hl h h1 h2⟩) (Below.refl _ _) (fun _ => rfl)
    (UpI w ab ao N cc0 (.func (.func K) #[] caps) jn) (fun _ _ _ => False) (fun s W W' row hs hg hr => hs.kept hp2 hg hr) (fun _ _ _ _ _ hs _ _ => hs) hI0
    (upAx w ab ao N cc0 K caps) (fun x a' _ W W' row hs hg hr => by obtain ⟨g7, h1, h2⟩ := hs; exact ⟨g7, h1.kept hg (fun r e => (hr r e).2), h2⟩) ?assign ?body ?done ?stop
  case assign =>
    rintro l pre x W K' hI hK
    gi_wp2_with ((with_reducible refine atIn_store 200 ?_); refine wpListIn_storeAll _ rfl 200 _ _ rfl W.heap.size 200 z64 (prCells x) (Blk.new W _ _) rfl rfl (by rw [prCells_size]; rfl) (by rw [prCells_size]; exact inf60) (pr_one x) ?_; intro W3 h3 hg3 hs3)
    have hC3 : Chg (fun b => b = W.heap.size) W W3 := ((Chg.refl _ W).alloc _).trans (Chg.grown hg3 (by rintro j h; cases h; rfl))
    have hl3 := hI.Bx.lt
    refine hK _ _ (KeepsOthers.from ⟨hC3.size, fun k o hk ho => ?_⟩ _) ⟨hC3.block _ hl3 (show ¬ _ = _ by omega), hC3.below (fun b hb => by have hb : b = W.heap.size := hb; omega) (by omega)⟩ (hI.new hC3) ⟨W.heap.size, h3, rfl⟩
    have hkl := (Array.getElem?_eq_some_iff.1 hk).1
    exact (hC3.block k hkl (show ¬ _ = _ by omega)).trans hk
  case body =>
    rintro l pre x a' wr hl ⟨r, hr⟩ ⟨⟨A, c, hS, hO⟩, hF0, hBs, hBW⟩ ⟨g7, hX7, rfl⟩ hlen
    have hszr : w.heap.size ≤ wr.heap.size := hBW.size
    have hgbr : w.heap.size + 1 ≤ wr.drew.heap.size := by have := hS.lt; show w.heap.size + 1 ≤ wr.heap.size; omega
    have hob0 : ¬ (Value.slice A pre.length c).ownBlock = some w.heap.size := fun e => own_ne hO hF0 (by decide) e rfl
    have hb0g5 : ¬ w.heap.size = w.heap.size + 2 := by omega
    have hog7 : ¬ (Value.slice A pre.length c).ownBlock = some g7 := fun e => own_ne hO hX7 (by decide) e rfl
    have hg7g5 : ¬ g7 = w.heap.size + 2 := by
      rintro rfl
      have := hX7.symm.trans hS
      simp at this
    have hog5 : ¬ (Value.slice A pre.length c).ownBlock = some (w.heap.size + 2) := fun e => own_ne hO hS (by decide) e rfl
    have hoBs : ¬ (Value.slice A pre.length c).ownBlock = some (w.heap.size + 3) := fun e => own_ne hO hBs (by decide) e rfl
    have hBsg5 : ¬ w.heap.size + 3 = w.heap.size + 2 := by omega
    gi_wp2
    refine Flow.wpIn_region_flow (Plain.round l) (by kernel_rfl) (w.heap.size) [(6, fun b => (Value.slice A pre.length c).ownBlock = some b), (7, fun b => b = (w.heap.size + 2))] [(0, fun W => Blk W (w.heap.size + 2) 100 (#[.slice A pre.length c])), (1, fun W => Blk W w.heap.size 202 (#[(Value.func (.func K) #[] caps)])), (3, fun W => Blk W g7 200 ((prCells x))), (6, fun W => W.ownsRow (w.heap.size + 1) 39 32 (.slice A pre.length c) pre.length (ncells (pre.map jn))), (7, fun W => Blk W (w.heap.size + 2) 100 (#[.slice A pre.length c])), (8, fun W => Blk W w.heap.size 202 (#[(Value.func (.func K) #[] caps)])), (8, fun W => Blk W (w.heap.size + 3) 100 (#[.slice (some ⟨ab, ao, none⟩) N cc0])), (8, fun W => KeepsOthers wr W)] (by kernel_rfl) (by kernel_rfl) hszr (Flow.nz_cons (fun b hb => by have := (own_some hO hb).1; omega) (Flow.nz_cons (by rintro b rfl; omega) Flow.nz_nil)) (Flow.facts_cons (hS.drew) (Flow.kept_blk id) (Flow.fz_cons (Flow.no_follow (by kernel_rfl)) (Flow.fz_cons (Flow.no_follow (by kernel_rfl)) Flow.fz_nil)) (Flow.facts_cons (hF0.drew) (Flow.kept_blk id) (Flow.fz_cons (Flow.no_follow (by kernel_rfl)) (Flow.fz_cons (Flow.no_follow (by kernel_rfl)) Flow.fz_nil)) (Flow.facts_cons (hX7.drew) (Flow.kept_blk id) (Flow.fz_cons (Flow.no_follow (by kernel_rfl)) (Flow.fz_cons (Flow.no_follow (by kernel_rfl)) Flow.fz_nil)) (Flow.facts_cons (hO.drew) (Flow.kept_own (fun _ _ => id)) (Flow.fz_cons (Flow.no_follow (by kernel_rfl)) (Flow.fz_cons (Flow.no_follow (by kernel_rfl)) Flow.fz_nil)) (Flow.facts_cons (hS.drew) (Flow.kept_blk id) (Flow.fz_cons (fun _ => Flow.kept_blk hog5) (Flow.fz_cons (Flow.no_follow (by kernel_rfl)) Flow.fz_nil)) (Flow.facts_cons (hF0.drew) (Flow.kept_blk id) (Flow.fz_cons (fun _ => Flow.kept_blk hob0) (Flow.fz_cons (fun _ => Flow.kept_blk hb0g5) Flow.fz_nil)) (Flow.facts_cons (hBs.drew) (Flow.kept_blk id) (Flow.fz_cons (fun _ => Flow.kept_blk hoBs) (Flow.fz_cons (fun _ => Flow.kept_blk hBsg5) Flow.fz_nil)) (Flow.facts_cons (KeepsOthers.drew wr) (kept_others (fun _ _ h _ => h.elim)) (Flow.fz_cons (fun _ => kept_others (fun b o hb ho => own_cells hO hb ho)) (Flow.fz_cons (fun _ => kept_others (fun b o hb ho => blk_cells hS hb ho)) Flow.fz_nil)) Flow.facts_nil)))))))) ?_
    refine Flow.pass_val (.slice A pre.length c) (Flow.met_none rfl) (fun a W hH => ?_) ?_
    · have e0 := Flow.see_old 5 hH.sees (by kernel_rfl) (by kernel_rfl) rfl
      have fa0 : (fun W => Blk W (w.heap.size + 2) 100 (#[.slice A pre.length c])) W := hH.fact _ (List.mem_of_getElem? (i := 0) rfl) rfl
      have cf : World.cell? W ⟨(w.heap.size + 2), 0, none⟩ = some (.slice A pre.length c) := (fa0.cell 0).trans rfl; go_simp
    refine Flow.pass_val ((Value.func (.func K) #[] caps)) (Flow.met_none rfl) (fun a W hH => ?_) ?_
    · have e0 := Flow.see_old 3 hH.sees (by kernel_rfl) (by kernel_rfl) rfl
      have fa1 : (fun W => Blk W w.heap.size 202 (#[(Value.func (.func K) #[] caps)])) W := hH.fact _ (List.mem_of_getElem? (i := 1) rfl) rfl
      have cf : World.cell? W ⟨w.heap.size, 0, none⟩ = some (Value.func (.func K) #[] caps) := (fa1.cell 0).trans rfl; go_simp
    refine Flow.pass_old (X := .int .u32 (x.1.1 : Nat)) 6 (Flow.met_none rfl) (.inl rfl) (by kernel_rfl) (by kernel_rfl) rfl ?_
    refine Flow.pass_val (.agg (prCells x)) (Flow.met_none rfl) (fun a W hH => ?_) ?_
    · have e0 := Flow.see_old 7 hH.sees (by kernel_rfl) (by kernel_rfl) rfl
      have fa2 : (fun W => Blk W g7 200 ((prCells x))) W := hH.fact _ (List.mem_of_getElem? (i := 2) rfl) rfl
      exact reg_load 200 _ rfl e0 fa2 Tryz.underlying200 rfl (by rw [prCells_size]; exact inf60)
    refine Flow.pass_gen (fun v _ => v = .agg (bcells (jn x)).toArray ∧ True) (Flow.kept_of (fun _ _ _ _ h => h) (Flow.kz_cons (fun _ => fun _ _ _ _ h => h) (Flow.kz_cons (fun _ => fun _ _ _ _ h => h) Flow.kz_nil))) (Flow.met_none rfl) (fun a W hH => ?_) ?_
    · have e0 := Flow.see_new 18 1 hH.sees (by kernel_rfl) (by kernel_rfl) rfl rfl
      have e1 := Flow.see_new 19 2 hH.sees (by kernel_rfl) (by kernel_rfl) rfl rfl
      have e2 := Flow.see_new 20 3 hH.sees (by kernel_rfl) (by kernel_rfl) rfl rfl
      refine Flow.wp_callF (vals := prEncs x ++ caps) rfl e0 Hf.out Hb.out Hname.out (by simp [Act.eval, e1, e2]) (Hcall.out x W (hBW.drew.trans hH.below)) ?_
      rintro e w' ⟨rfl, hB⟩
      exact ⟨_, rfl, Chg.of_ext hB, rfl, trivial⟩
    refine Flow.pass_gen (fun v W => ∃ b, v = .slice (some ⟨b, 0, none⟩) 1 1 ∧ (wr.heap.size ≤ b ∧ Blk W b 39 (bcells (jn x)).toArray)) (Flow.kept_of (fun _ _ _ c ⟨b, h1, h2, h3⟩ => ⟨b, h1, h2, h3.chg c id⟩) (Flow.kz_cons (fun _ => fun _ _ _ c ⟨b, h1, h2, h3⟩ => ⟨b, h1, h2, h3.chg c (fun hb => by have := (own_some hO hb).2; omega)⟩) (Flow.kz_cons (fun _ => fun _ _ _ c ⟨b, h1, h2, h3⟩ => ⟨b, h1, h2, h3.chg c (fun e => by have e2 : b = w.heap.size + 2 := e; have := hS.lt; omega)⟩) Flow.kz_nil))) (Flow.met_none rfl) (fun a W hH => ?_) ?_
    · obtain ⟨e0, q0⟩ := Flow.see_up 21 4 hH.sees (by kernel_rfl) (by kernel_rfl) rfl rfl
      refine Flow.wp_run (Flow.reg_buildSlice _ rfl (by simp [Act.eval, e0]) (run_nodeS W (jn x) (hjl x))) ?_
      exact ⟨_, rfl, Chg.of_ext ((Ext.refl W).alloc _), W.heap.size, rfl, hH.below.size, Blk.new _ _ _⟩
    refine Flow.pass_list (fun v W => ∃ A1 c1, v = .slice A1 (pre.length + 1) c1 ∧ (W.ownsRow (w.heap.size + 1) 39 32 (.slice A1 (pre.length + 1) c1) (pre.length + 1) ((ncells (pre.map jn)) ++ bcells (jn x)) ∧ ∀ b, (Value.slice A1 (pre.length + 1) c1).ownBlock = some b → (Value.slice A pre.length c).ownBlock = some b ∨ wr.heap.size ≤ b)) (Flow.kept_of (fun _ _ _ c ⟨A1, c1, h1, h2, h3⟩ => ⟨A1, c1, h1, own_chg h2 c (fun _ _ => id), h3⟩) (Flow.kz_cons (Flow.no_follow (by kernel_rfl)) (Flow.kz_cons (fun _ => fun _ _ _ c ⟨A1, c1, h1, h2, h3⟩ => ⟨A1, c1, h1, own_chg h2 c (fun b hb e => by have e2 : b = w.heap.size + 2 := e; subst e2; rcases h3 _ hb with h4 | h4; exact hog5 h4; have := hS.lt; omega), h3⟩) Flow.kz_nil))) (Flow.met_none rfl) (fun a W hH => ?_) ?_
    · have e0 := Flow.see_new 17 0 hH.sees (by kernel_rfl) (by kernel_rfl) rfl rfl
      obtain ⟨b1, e1, q1⟩ := Flow.see_up 22 5 hH.sees (by kernel_rfl) (by kernel_rfl) rfl rfl
      have fa3 : (fun W => W.ownsRow (w.heap.size + 1) 39 32 (.slice A pre.length c) pre.length (ncells (pre.map jn))) W := hH.fact _ (List.mem_of_getElem? (i := 3) rfl) rfl
      refine wpList_app W elNz rfl _ _ rfl (w.heap.size + 1) A pre.length c _ (by simpa [Act.eval] using e0) fa3 W.heap.size (some ⟨b1, 0, none⟩) 1 1 (bcells (jn x)) (by simpa [Act.eval] using e1) (by have := q1.2.rd (size := 32) (n := 1) (by simp [bcells_length, hjl x]); simpa using this) (bcells_one (jn x)) (by omega) (by omega) (Nat.le_trans hgbr hH.below.size) ?_
      intro A1 c1 W2 hO2 hg hB hob
      refine Flow.qq_nil ⟨_, rfl, Chg.grown hg (fun b hb => hb), A1, c1, rfl, hO2, fun b hb => ?_⟩
      rcases hob with h4 | h4
      · left; rw [← h4]; exact hb
      · right; rw [hb] at h4; cases h4; exact hH.below.size
    refine Flow.pass_gen (fun _ W => ∃ A1 c1, Blk W (w.heap.size + 2) 100 #[.slice A1 (pre.length + 1) c1] ∧ W.ownsRow (w.heap.size + 1) 39 32 (.slice A1 (pre.length + 1) c1) (pre.length + 1) ((ncells (pre.map jn)) ++ bcells (jn x))) (Flow.kept_of (fun _ _ _ c ⟨A1, c1, h1, h2⟩ => ⟨A1, c1, h1.chg c id, own_chg h2 c (fun _ _ => id)⟩) (Flow.kz_cons (Flow.no_follow (by kernel_rfl)) (Flow.kz_cons (Flow.no_follow (by kernel_rfl)) Flow.kz_nil))) (Flow.met_none rfl) (fun a W hH => ?_) ?_
    · have e0 := Flow.see_old 5 hH.sees (by kernel_rfl) (by kernel_rfl) rfl
      obtain ⟨A11, c11, e1, q1⟩ := Flow.see_up 23 6 hH.sees (by kernel_rfl) (by kernel_rfl) rfl rfl
      have fa4 : (fun W => Blk W (w.heap.size + 2) 100 (#[.slice A pre.length c])) W := hH.fact _ (List.mem_of_getElem? (i := 4) rfl) rfl
      refine wp_skip (reg_storeSlice rfl (by kernel_rfl) fa4 e0 e1 (by simp)) ?_
      obtain ⟨hO2, hob⟩ := q1
      have hcg : Chg (fun b => b = w.heap.size + 2) W (W.setCell ⟨w.heap.size + 2, 0, none⟩ (.slice A11 (pre.length + 1) c11)) := Chg.grown (grown_setL W (w.heap.size + 2) 0 _) (by rintro k h; cases h; rfl)
      refine ⟨_, rfl, hcg, A11, c11, ?_, own_chg hO2 hcg (fun b hb e => by have e2 : b = w.heap.size + 2 := e; subst e2; rcases hob _ hb with h4 | h4; exact hog5 h4; have := hS.lt; omega)⟩
      have := fa4.set_ 0 (.slice A11 (pre.length + 1) c11)
      simpa using this
    refine Flow.pass_end [none, none, none, none, none, none, none, none, none, none, none, none, none, none, none, none, none, some 17, some 18, some 19, some 20, some 21, some 22, some 23, none, none, none, none, none, none, none, none] (by kernel_rfl) ?_
    intro f gg w9 hB hfa hT hfg
    refine ⟨rfl, ?_⟩
    obtain ⟨A9, c9, hS9, hO9⟩ := hT 7 _ (by kernel_rfl) rfl
    have F5 := hfa _ (List.mem_of_getElem? (i := 5) rfl) (Nat.le_refl _)
    have F6 := hfa _ (List.mem_of_getElem? (i := 6) rfl) (Nat.le_refl _)
    have F7 := hfa _ (List.mem_of_getElem? (i := 7) rfl) (Nat.le_refl _)
    have hB9 := hBW.drew.trans hB
    have hfin : UpI w ab ao N cc0 (.func (.func K) #[] caps) jn (pre ++ [x]) w9 := by
      refine ⟨⟨A9, c9, ?_, ?_⟩, F5, F6, hB9⟩
      · rw [List.length_append]; exact hS9
      · rw [List.length_append, List.map_append, List.map_cons, List.map_nil, ncells_snoc]; exact hO9
    have hk : KeepsFrom W2.heap.size wr w9 := KeepsOthers.from F7 _
    have hkb : KB (w.heap.size + 3) w.heap.size wr w9 := ⟨Eq.trans F6 (Eq.symm hBs), (Below.refl _ wr).drew.trans hB⟩
    clear hfa hT hfg hS9 hO9 F5 F6 F7
    exact ⟨hk, hkb, hfin⟩
  case done =>
    rintro D ys wr hD rfl ⟨⟨A, c, hS, hO⟩, _, _, hBW⟩ hK
    have hszr : w.heap.size ≤ wr.heap.size := hBW.size
    have hgbr : w.heap.size + 1 ≤ wr.drew.heap.size := by have := hS.lt; show w.heap.size + 1 ≤ wr.heap.size; omega
    have hup : Hid (ncells ((upto (prOf ns) (ns.length / 2)).map jn) ++ ncells (ns.drop (ns.length / 2 * 2)) = ncells (upL join ns)) := Lib.hid (by
      rw [← ncells_append, upL]
      congr 2
      unfold upto
      rw [List.map_map]
      apply List.map_congr_left
      intro i hi
      have hi' : i < ns.length / 2 := by simpa using hi
      have := prOf_eq H32.out (i := i) (by omega) (by have := HN.out; omega)
      simp only [Function.comp_apply, HJ.out, this])
    have hlen : Hid ((upL join ns).length = ns.length / 2 + (ns.length - ns.length / 2 * 2)) := Lib.hid (by rw [upL_length]; omega)
    have hl0 : (upto (prOf ns) (ns.length / 2)).length = ns.length / 2 := upto_length _ _
    rw [hl0] at hS hO
    have hNe := HN.out
    rw [← hNe] at hS hO hup hlen
    clear hl0 hNe
    generalize ((upto (prOf ns) (N / 2)).map jn) = ns0 at *
    obtain ⟨ns1, hns1⟩ : ∃ l, l = ns.drop (N / 2 * 2) := ⟨_, rfl⟩
    rw [← hns1] at hup
    obtain ⟨M, hM⟩ : ∃ M, M = N / 2 := ⟨_, rfl⟩
    rw [← hM] at hS hO hlen
    obtain ⟨p, hp⟩ : ∃ p, p = N / 2 * 2 := ⟨_, rfl⟩
    rw [← hp] at hns1
    have hwp : IntKind.i64.wrap ((N : Int) / 2 * 2) = (p : Int) := by rw [IntKind.wrap_i64]; omega
    have hcut := hR.cut (k := p) hcc
    rw [show (ncells ns).drop (p * 32) = ncells ns1 by
      rw [hns1]
      have e : ns = ns.take p ++ ns.drop p := (List.take_append_drop _ _).symm
      have hl : (ncells (ns.take p)).length = p * 32 := by rw [ncells_length _ (fun x hx => H32.out x (List.mem_of_mem_take hx)), List.length_take]; have := HN.out; rw [Nat.min_eq_left (by omega)]
      conv => lhs; rw [e, ncells_append]
      rw [List.drop_left' hl]] at hcut
    have hpN : p ≤ N := by omega
    have hMN : M + (N - p) ≤ 1000 := by omega
    have hlen : Hid ((upL join ns).length = M + (N - p)) := Lib.hid (by have := hlen.out; omega)
    have hwp : IntKind.i64.wrap ((M : Int) * 2) = (p : Int) := by rw [IntKind.wrap_i64]; omega
    have hdiv : (N : Int).tdiv 2 = (M : Int) := by rw [hdiv]; omega
    have hpi : (p : Int) ≤ (N : Int) := by omega
    have hdw : IntKind.i64.wrap ((N : Int) / 2) = (M : Int) := by rw [IntKind.wrap_i64]; omega
    clear hM hp hns1
    by_cases e : cc0 = p
    · rw [if_pos e] at hcut
      have hR6 := hcut.below (hBW.drew)
      gi_wp2
      refine Flow.wpIn_region_flow Plain.wide (by kernel_rfl) (w.heap.size) [(7, fun b => (Value.slice A M c).ownBlock = some b)] [(0, fun W => Blk W (w.heap.size + 2) 100 (#[.slice A M c])), (7, fun W => W.ownsRow (w.heap.size + 1) 39 32 (.slice A M c) M (ncells ns0)), (9, fun W => KeepsOthers wr W)] (by kernel_rfl) (by kernel_rfl) hszr (Flow.nz_cons (fun b hb => by have := (own_some hO hb).1; omega) Flow.nz_nil) (Flow.facts_cons (hS.drew) (Flow.kept_blk id) (Flow.fz_cons (Flow.no_follow (by kernel_rfl)) Flow.fz_nil) (Flow.facts_cons (hO.drew) (Flow.kept_own (fun _ _ => id)) (Flow.fz_cons (Flow.no_follow (by kernel_rfl)) Flow.fz_nil) (Flow.facts_cons (KeepsOthers.drew wr) (kept_others (fun _ _ h _ => h.elim)) (Flow.fz_cons (fun _ => kept_others (fun b o hb ho => own_cells hO hb ho)) Flow.fz_nil) Flow.facts_nil))) ?_
      refine Flow.pass_val (.slice A M c) (Flow.met_none rfl) (fun a W hH => ?_) ?_
      · have e0 := Flow.see_old 5 hH.sees (by kernel_rfl) (by kernel_rfl) rfl
        have fa0 : (fun W => Blk W (w.heap.size + 2) 100 (#[.slice A M c])) W := hH.fact _ (List.mem_of_getElem? (i := 0) rfl) rfl
        have cf : World.cell? W ⟨(w.heap.size + 2), 0, none⟩ = some (.slice A M c) := (fa0.cell 0).trans rfl; go_simp
      refine Flow.pass_old (X := .slice (some ⟨ab, ao, none⟩) N cc0) 0 (Flow.met_none rfl) (.inl rfl) (by kernel_rfl) (by kernel_rfl) rfl ?_
      refine Flow.pass_old (X := .slice (some ⟨ab, ao, none⟩) N cc0) 0 (Flow.met_none rfl) (.inl rfl) (by kernel_rfl) (by kernel_rfl) rfl ?_
      refine Flow.pass_val (.int .i64 (N : Int)) (Flow.met_none rfl) (fun a W hH => ?_) ?_
      · have e0 := Flow.see_new 26 2 hH.sees (by kernel_rfl) (by kernel_rfl) rfl rfl
        go_simp; first | done | rfl
      refine Flow.pass_val (.int .i64 (M : Int)) (Flow.met_none rfl) (fun a W hH => ?_) ?_
      · have e0 := Flow.see_new 27 3 hH.sees (by kernel_rfl) (by kernel_rfl) rfl rfl
        go_simp; first | done | rfl | (rw [hdw])
      refine Flow.pass_val (.int .i64 (p : Int)) (Flow.met_none rfl) (fun a W hH => ?_) ?_
      · have e0 := Flow.see_new 28 4 hH.sees (by kernel_rfl) (by kernel_rfl) rfl rfl
        go_simp; first | done | rfl | (rw [hwp]) | omega
      refine Flow.pass_val (.slice (some ⟨ab, ao, none⟩) (N - p) (cc0 - p)) (Flow.met_none rfl) (fun a W hH => ?_) ?_
      · have e0 := Flow.see_new 25 1 hH.sees (by kernel_rfl) (by kernel_rfl) rfl rfl
        have e1 := Flow.see_new 29 5 hH.sees (by kernel_rfl) (by kernel_rfl) rfl rfl
        go_simp; first | done | rfl
      refine Flow.pass_list (fun v W => ∃ A1 c1, v = .slice A1 (M + (N - p)) c1 ∧ W.ownsRow (w.heap.size + 1) 39 32 (.slice A1 (M + (N - p)) c1) (M + (N - p)) ((ncells ns0) ++ ncells ns1)) (Flow.kept_of (fun _ _ _ c ⟨A1, c1, h1, h2⟩ => ⟨A1, c1, h1, own_chg h2 c (fun _ _ => id)⟩) (Flow.kz_cons (Flow.no_follow (by kernel_rfl)) Flow.kz_nil)) (Flow.met_none rfl) (fun a W hH => ?_) ?_
      · have e0 := Flow.see_new 24 0 hH.sees (by kernel_rfl) (by kernel_rfl) rfl rfl
        have e1 := Flow.see_new 30 6 hH.sees (by kernel_rfl) (by kernel_rfl) rfl rfl
        have fa1 : (fun W => W.ownsRow (w.heap.size + 1) 39 32 (.slice A M c) M (ncells ns0)) W := hH.fact _ (List.mem_of_getElem? (i := 1) rfl) rfl
        refine wpList_app W elNz rfl _ _ rfl (w.heap.size + 1) A M c _ (by simpa [Act.eval] using e0) fa1 w.heap.size (some ⟨ab, ao, none⟩) (N - p) (cc0 - p) (ncells ns1) (by simpa [Act.eval] using e1) (hR6.below hH.below) ncells_one (by omega) (by omega) (Nat.le_trans hgbr hH.below.size) ?_
        intro A1 c1 W2 hO2 hg hB hob
        exact Flow.qq_nil ⟨_, rfl, Chg.grown hg (fun b hb => hb), A1, c1, rfl, hO2⟩
      refine Flow.pass_copy 31 7 (Flow.met_none rfl) (.inr rfl) (by kernel_rfl) (by kernel_rfl) rfl rfl (Flow.kept_of (fun _ _ _ c ⟨A1, c1, h1, h2⟩ => ⟨A1, c1, h1, own_chg h2 c (fun _ _ => id)⟩) (Flow.kz_cons (Flow.no_follow (by kernel_rfl)) Flow.kz_nil)) ?_
      refine Flow.pass_end [none, none, none, none, some 4, none, none, none, none, none, none, none, none, none, none, none, none, none, none, none, none, none, none, none, some 24, some 25, some 26, some 27, some 28, some 29, some 30, some 31] (by kernel_rfl) ?_
      intro f gg w9 hB hfa hT hfg
      obtain ⟨A14, c14, h4, g4⟩ := hT 8 _ (by kernel_rfl) rfl
      rw [← hfg 4 8 (by kernel_rfl)] at h4
      have F2 : (fun W => KeepsOthers wr W) w9 := hfa _ (List.mem_of_getElem? (i := 2) rfl) (Nat.le_refl _)
      refine ⟨rfl, ?_⟩
      have F2 := hfa _ (List.mem_of_getElem? (i := 2) rfl) (Nat.le_refl _)
      have hK9 := F2.same D _ hK rfl
      have B9 := hBW.drew.trans hB
      simp only [Reg.sel, h4]
      clear hfa hT hfg hR6 hO hS
      gi_wp2
      refine ⟨by simp, .inl ⟨_, _, rfl, run_takeDeferred hK9, ?_⟩⟩
      refine ⟨_, results_tmp rfl _ _ _, ?_⟩
      have hO9 := ownsRow_putObj g4 (.deferred none) hK9 rfl
      rw [hup.out] at hO9
      exact nodesRet_own (by rw [hlen.out]) hO9 (B9.trans (belowK_b (w := w) (Nat.le_refl _) w9 D _ _ (by omega) hK9 rfl rfl))
    · rw [if_neg e] at hcut
      have e2 : (⟨ab, ao, none⟩ : Addr).add (p * 32) = ⟨ab, ao + p * 32, none⟩ := by
        unfold Addr.add
        by_cases h0 : p * 32 = 0
        · rw [if_pos h0, h0]; rfl
        · rw [if_neg h0]
      rw [Option.map_some, e2] at hcut
      have hR6 := hcut.below (hBW.drew)
      gi_wp2
      refine Flow.wpIn_region_flow Plain.wide (by kernel_rfl) (w.heap.size) [(7, fun b => (Value.slice A M c).ownBlock = some b)] [(0, fun W => Blk W (w.heap.size + 2) 100 (#[.slice A M c])), (7, fun W => W.ownsRow (w.heap.size + 1) 39 32 (.slice A M c) M (ncells ns0)), (9, fun W => KeepsOthers wr W)] (by kernel_rfl) (by kernel_rfl) hszr (Flow.nz_cons (fun b hb => by have := (own_some hO hb).1; omega) Flow.nz_nil) (Flow.facts_cons (hS.drew) (Flow.kept_blk id) (Flow.fz_cons (Flow.no_follow (by kernel_rfl)) Flow.fz_nil) (Flow.facts_cons (hO.drew) (Flow.kept_own (fun _ _ => id)) (Flow.fz_cons (Flow.no_follow (by kernel_rfl)) Flow.fz_nil) (Flow.facts_cons (KeepsOthers.drew wr) (kept_others (fun _ _ h _ => h.elim)) (Flow.fz_cons (fun _ => kept_others (fun b o hb ho => own_cells hO hb ho)) Flow.fz_nil) Flow.facts_nil))) ?_
      refine Flow.pass_val (.slice A M c) (Flow.met_none rfl) (fun a W hH => ?_) ?_
      · have e0 := Flow.see_old 5 hH.sees (by kernel_rfl) (by kernel_rfl) rfl
        have fa0 : (fun W => Blk W (w.heap.size + 2) 100 (#[.slice A M c])) W := hH.fact _ (List.mem_of_getElem? (i := 0) rfl) rfl
        have cf : World.cell? W ⟨(w.heap.size + 2), 0, none⟩ = some (.slice A M c) := (fa0.cell 0).trans rfl; go_simp
      refine Flow.pass_old (X := .slice (some ⟨ab, ao, none⟩) N cc0) 0 (Flow.met_none rfl) (.inl rfl) (by kernel_rfl) (by kernel_rfl) rfl ?_
      refine Flow.pass_old (X := .slice (some ⟨ab, ao, none⟩) N cc0) 0 (Flow.met_none rfl) (.inl rfl) (by kernel_rfl) (by kernel_rfl) rfl ?_
      refine Flow.pass_val (.int .i64 (N : Int)) (Flow.met_none rfl) (fun a W hH => ?_) ?_
      · have e0 := Flow.see_new 26 2 hH.sees (by kernel_rfl) (by kernel_rfl) rfl rfl
        go_simp; first | done | rfl
      refine Flow.pass_val (.int .i64 (M : Int)) (Flow.met_none rfl) (fun a W hH => ?_) ?_
      · have e0 := Flow.see_new 27 3 hH.sees (by kernel_rfl) (by kernel_rfl) rfl rfl
        go_simp; first | done | rfl | (rw [hdw])
      refine Flow.pass_val (.int .i64 (p : Int)) (Flow.met_none rfl) (fun a W hH => ?_) ?_
      · have e0 := Flow.see_new 28 4 hH.sees (by kernel_rfl) (by kernel_rfl) rfl rfl
        go_simp; first | done | rfl | (rw [hwp]) | omega
      refine Flow.pass_val (.slice (some ⟨ab, ao + p * 32, none⟩) (N - p) (cc0 - p)) (Flow.met_none rfl) (fun a W hH => ?_) ?_
      · have e0 := Flow.see_new 25 1 hH.sees (by kernel_rfl) (by kernel_rfl) rfl rfl
        have e1 := Flow.see_new 29 5 hH.sees (by kernel_rfl) (by kernel_rfl) rfl rfl
        go_simp; first | done | rfl
      refine Flow.pass_list (fun v W => ∃ A1 c1, v = .slice A1 (M + (N - p)) c1 ∧ W.ownsRow (w.heap.size + 1) 39 32 (.slice A1 (M + (N - p)) c1) (M + (N - p)) ((ncells ns0) ++ ncells ns1)) (Flow.kept_of (fun _ _ _ c ⟨A1, c1, h1, h2⟩ => ⟨A1, c1, h1, own_chg h2 c (fun _ _ => id)⟩) (Flow.kz_cons (Flow.no_follow (by kernel_rfl)) Flow.kz_nil)) (Flow.met_none rfl) (fun a W hH => ?_) ?_
      · have e0 := Flow.see_new 24 0 hH.sees (by kernel_rfl) (by kernel_rfl) rfl rfl
        have e1 := Flow.see_new 30 6 hH.sees (by kernel_rfl) (by kernel_rfl) rfl rfl
        have fa1 : (fun W => W.ownsRow (w.heap.size + 1) 39 32 (.slice A M c) M (ncells ns0)) W := hH.fact _ (List.mem_of_getElem? (i := 1) rfl) rfl
        refine wpList_app W elNz rfl _ _ rfl (w.heap.size + 1) A M c _ (by simpa [Act.eval] using e0) fa1 w.heap.size (some ⟨ab, ao + p * 32, none⟩) (N - p) (cc0 - p) (ncells ns1) (by simpa [Act.eval] using e1) (hR6.below hH.below) ncells_one (by omega) (by omega) (Nat.le_trans hgbr hH.below.size) ?_
        intro A1 c1 W2 hO2 hg hB hob
        exact Flow.qq_nil ⟨_, rfl, Chg.grown hg (fun b hb => hb), A1, c1, rfl, hO2⟩
      refine Flow.pass_copy 31 7 (Flow.met_none rfl) (.inr rfl) (by kernel_rfl) (by kernel_rfl) rfl rfl (Flow.kept_of (fun _ _ _ c ⟨A1, c1, h1, h2⟩ => ⟨A1, c1, h1, own_chg h2 c (fun _ _ => id)⟩) (Flow.kz_cons (Flow.no_follow (by kernel_rfl)) Flow.kz_nil)) ?_
      refine Flow.pass_end [none, none, none, none, some 4, none, none, none, none, none, none, none, none, none, none, none, none, none, none, none, none, none, none, none, some 24, some 25, some 26, some 27, some 28, some 29, some 30, some 31] (by kernel_rfl) ?_
      intro f gg w9 hB hfa hT hfg
      obtain ⟨A14, c14, h4, g4⟩ := hT 8 _ (by kernel_rfl) rfl
      rw [← hfg 4 8 (by kernel_rfl)] at h4
      have F2 : (fun W => KeepsOthers wr W) w9 := hfa _ (List.mem_of_getElem? (i := 2) rfl) (Nat.le_refl _)
      refine ⟨rfl, ?_⟩
      have F2 := hfa _ (List.mem_of_getElem? (i := 2) rfl) (Nat.le_refl _)
      have hK9 := F2.same D _ hK rfl
      have B9 := hBW.drew.trans hB
      simp only [Reg.sel, h4]
      clear hfa hT hfg hR6 hO hS
      gi_wp2
      refine ⟨by simp, .inl ⟨_, _, rfl, run_takeDeferred hK9, ?_⟩⟩
      refine ⟨_, results_tmp rfl _ _ _, ?_⟩
      have hO9 := ownsRow_putObj g4 (.deferred none) hK9 rfl
      rw [hup.out] at hO9
      exact nodesRet_own (by rw [hlen.out]) hO9 (B9.trans (belowK_b (w := w) (Nat.le_refl _) w9 D _ _ (by omega) hK9 rfl rfl))
  case stop =>
    rintro D c pre W _ _ h _
    exact h.elim
end Go.Proofs.YtipdmhppadapkaaGreatDoor
/-
  Walks: the functions of a pair that ltree.Leaf and ltree.Path hand on.
-/
namespace Go.Proofs.YtipdmhppadapkaaGreatDoor
open Go.RowKit Sha

theorem pr_left {w : World} {g : Nat} {t : TypeId} {a b : Nd} (h : Blk w g t (bcells a ++ bcells b).toArray) : w.rangeAt g 0 (bcells a) := fun j v hv => by
  rw [Nat.zero_add, h.cell]
  simp only [List.getElem?_toArray]
  rw [List.getElem?_append_left (List.getElem?_eq_some_iff.1 hv).1]; exact hv
theorem pr_right {w : World} {g : Nat} {t : TypeId} {a b : Nd} (ha : a.length = 32) (h : Blk w g t (bcells a ++ bcells b).toArray) : w.rangeAt g 32 (bcells b) := fun j v hv => by
  rw [h.cell]
  simp only [List.getElem?_toArray]
  rw [List.getElem?_append_right (by rw [bcells_length, ha]; omega), bcells_length, ha, show 32 + j - 32 = j by omega]; exact hv

set_option maxRecDepth 100000 in
set_option maxHeartbeats 2000000 in
theorem mleaf1_any (gv gi gh : Nat) (sd : Nd) (hsd : sd.length = 32) (leaf h : Nat) (x : Pr) (w : World) (hV0 : Blk w gv 39 (bcells sd).toArray) (hI0 : Blk w gi 23 #[.int .u32 (leaf : Int)]) (hG0 : Blk w gh 23 #[.int .u32 (h : Int)]) (hT : Tabs w) :
    Calls Tryz.prog 124 (prEncs x ++ #[.pointer (some ⟨gv, 0, none⟩), .pointer (some ⟨gi, 0, none⟩), .pointer (some ⟨gh, 0, none⟩)]) w fun e w' => e = .returned (.agg (bcells (randH x.1.2.1 x.1.2.2 sd (ltreeAd leaf h x.1.1))).toArray) ∧ Below w.heap.size w w' := by
  have hz := zeroNode
  obtain ⟨⟨i, x1, x2⟩, hi, hx1, hx2⟩ := x
  show Calls Tryz.prog 124 #[.int .u32 (i : Nat), .agg (bcells x1 ++ bcells x2).toArray, .pointer (some ⟨gv, 0, none⟩), .pointer (some ⟨gi, 0, none⟩), .pointer (some ⟨gh, 0, none⟩)] w fun e w' => e = .returned (.agg (bcells (randH x1 x2 sd (ltreeAd leaf h i))).toArray) ∧ Below w.heap.size w w'
  have x1L : Hid (x1.length = 32) := Lib.hid hx1
  have x2L : Hid (x2.length = 32) := Lib.hid hx2
  have sdL := Lib.hid hsd
  obtain ⟨S, hS⟩ : ∃ S, S = randH x1 x2 sd (ltreeAd leaf h i) := ⟨_, rfl⟩
  rw [← hS]
  have HSl : Hid (S.length = 32) := Lib.hid (by rw [hS]; exact keyed_length _ _)
  have HS := Lib.hid hS
  have hTl := hT.first.lt
  have hTl2 := hT.rounds.lt
  have hVl := hV0.lt
  have hGl := hG0.lt
  have hIl := hI0.lt
  have hI := ((hI0.alloc (.cells (bcells x1 ++ bcells x2).toArray 200)).alloc (.cells zn 39)).drew
  have hX : Blk (w.alloc (.cells (bcells x1 ++ bcells x2).toArray 200)) w.heap.size 200 (bcells x1 ++ bcells x2).toArray := Blk.new _ _ _
  have hr0 := (pr_left (hX.alloc (.cells zn 39))).later (Below.refl _ _).drew ((hX.alloc (.cells zn 39)).lt)
  have hr1 := (pr_right hx1 (hX.alloc (.cells zn 39))).later (Below.refl _ _).drew ((hX.alloc (.cells zn 39)).lt)
  have hV := ((hV0.alloc (.cells (bcells x1 ++ bcells x2).toArray 200)).alloc (.cells zn 39)).drew
  have hG := ((hG0.alloc (.cells (bcells x1 ++ bcells x2).toArray 200)).alloc (.cells zn 39)).drew
  have hN := (blk_new1 w (.cells (bcells x1 ++ bcells x2).toArray 200) 39 zn).drew
  have hBw0 : Below w.heap.size w ((w.alloc (.cells (bcells x1 ++ bcells x2).toArray 200)).alloc (.cells zn 39)) := ((Below.refl _ _).alloc (Nat.le_refl _) _).alloc (by simp) _
  have hT0 := ((hT.alloc (.cells (bcells x1 ++ bcells x2).toArray 200)).alloc (.cells zn 39)).drew
  clear hS hX hV0 hG0 hT hsd hx1 hx2 hi hI0
  go_enter Tryz.func124, Tryz.ntmps124
  go_wp2_with fail
  generalize (w.alloc (.cells (bcells x1 ++ bcells x2).toArray 200)).alloc (.cells zn 39) = W0 at *
  have hsz : w.heap.size + 1 ≤ W0.drew.heap.size := Nat.le_of_lt hN.lt
  clear hz
  refine Flow.wp_region_flow (w.heap.size + 1) [(10, fun b => b = w.heap.size + 1)] [(10, fun W => Blk W (w.heap.size + 1) 39 (zn))] (by kernel_rfl) (by kernel_rfl) hsz (Flow.nz_cons (by rintro b rfl; exact Nat.le_refl _) Flow.nz_nil) (Flow.facts_cons (hN) (Flow.kept_blk id) (Flow.fz_cons (Flow.no_follow (by kernel_rfl)) Flow.fz_nil) Flow.facts_nil) ?_
  refine Flow.pass_val (.pointer (some ⟨w.heap.size, 0, none⟩)) (Flow.met_none rfl) (fun a W hH => ?_) ?_
  · have e0 := Flow.see_old 6 hH.sees (by kernel_rfl) (by kernel_rfl) rfl
    go_simp; first | done | rfl
  refine Flow.pass_val (.agg (bcells x1).toArray) (Flow.met_none rfl) (fun a W hH => ?_) ?_
  · have e0 := Flow.see_new 8 0 hH.sees (by kernel_rfl) (by kernel_rfl) rfl rfl
    exact reg_loadRange 39 _ rfl e0 (hr0.later hH.below (by omega)) Tryz.underlying39 rfl (by rw [List.size_toArray, bcells_length, x1L.out]; exact infNode)
  refine Flow.pass_val (.pointer (some ⟨w.heap.size, 32, none⟩)) (Flow.met_none rfl) (fun a W hH => ?_) ?_
  · have e0 := Flow.see_old 6 hH.sees (by kernel_rfl) (by kernel_rfl) rfl
    go_simp; first | done | rfl
  refine Flow.pass_val (.agg (bcells x2).toArray) (Flow.met_none rfl) (fun a W hH => ?_) ?_
  · have e0 := Flow.see_new 10 2 hH.sees (by kernel_rfl) (by kernel_rfl) rfl rfl
    exact reg_loadRange 39 _ rfl e0 (hr1.later hH.below (by omega)) Tryz.underlying39 rfl (by rw [List.size_toArray, bcells_length, x2L.out]; exact infNode)
  refine Flow.pass_val (.agg (bcells sd).toArray) (Flow.met_none rfl) (fun a W hH => ?_) ?_
  · have e0 := Flow.see_old 2 hH.sees (by kernel_rfl) (by kernel_rfl) rfl
    exact reg_load 39 _ rfl e0 (hV.below hH.below (by omega)) Tryz.underlying39 rfl (by rw [List.size_toArray, bcells_length, sdL.out]; exact infNode)
  refine Flow.pass_val (.int .u32 (leaf : Int)) (Flow.met_none rfl) (fun a W hH => ?_) ?_
  · have e0 := Flow.see_old 3 hH.sees (by kernel_rfl) (by kernel_rfl) rfl
    have cc : World.cell? W ⟨gi, 0, none⟩ = some (.int .u32 (leaf : Int)) := ((hI.below hH.below (by omega)).cell 0).trans rfl; go_simp
  refine Flow.pass_val (.int .u32 (h : Int)) (Flow.met_none rfl) (fun a W hH => ?_) ?_
  · have e0 := Flow.see_old 4 hH.sees (by kernel_rfl) (by kernel_rfl) rfl
    have cc : World.cell? W ⟨gh, 0, none⟩ = some (.int .u32 (h : Int)) := ((hG.below hH.below (by omega)).cell 0).trans rfl; go_simp
  refine Flow.pass_old (X := .int .u32 (i : Nat)) 0 (Flow.met_none rfl) (.inl rfl) (by kernel_rfl) (by kernel_rfl) rfl ?_
  refine Flow.pass_step (Reg.eqs (.agg (ltreeAd leaf h i).cells)) (fun _ _ => Flow.kept_eqs _ _) (Flow.met_none rfl) (fun a W hH => ?_) ?_
  · have e0 := Flow.see_new 13 5 hH.sees (by kernel_rfl) (by kernel_rfl) rfl rfl
    have e1 := Flow.see_new 14 6 hH.sees (by kernel_rfl) (by kernel_rfl) rfl rfl
    have e2 := Flow.see_new 15 7 hH.sees (by kernel_rfl) (by kernel_rfl) rfl rfl
    refine Reg.wp_call rfl Tryz.func125 rfl (by kernel_rfl) (by simp [Act.eval, e0, e1, e2]) (ltree_any leaf h i W) ?_
    rintro e w' ⟨rfl, hB⟩
    exact ⟨_, rfl, _, rfl, hB, rfl⟩
  refine Flow.pass_step (Reg.eqs (.agg (bcells S).toArray)) (fun _ _ => Flow.kept_eqs _ _) (Flow.met_none rfl) (fun a W hH => ?_) ?_
  · have e0 := Flow.see_new 9 1 hH.sees (by kernel_rfl) (by kernel_rfl) rfl rfl
    have e1 := Flow.see_new 11 3 hH.sees (by kernel_rfl) (by kernel_rfl) rfl rfl
    have e2 := Flow.see_new 12 4 hH.sees (by kernel_rfl) (by kernel_rfl) rfl rfl
    have e3 := Flow.see_new 16 8 hH.sees (by kernel_rfl) (by kernel_rfl) rfl rfl
    refine Reg.wp_call rfl Tryz.func121 rfl (by kernel_rfl) (by simp [Act.eval, e0, e1, e2, e3]) (mrand_any x1 x2 sd x1L.out x2L.out sdL.out (ltreeAd leaf h i) W (hT0.under hH.below (by omega) (by omega))) ?_
    rintro e w' ⟨rfl, hB⟩
    rw [← HS.out]
    exact ⟨_, rfl, _, rfl, hB, rfl⟩
  refine Flow.pass_list (fun _ W => Blk W (w.heap.size + 1) 39 (bcells S).toArray) (Flow.kept_of (fun _ _ _ c h => h.chg c id) (Flow.kz_cons (Flow.no_follow (by kernel_rfl)) Flow.kz_nil)) (Flow.met_none rfl) (fun a W hH => ?_) ?_
  · have e0 := Flow.see_old 7 hH.sees (by kernel_rfl) (by kernel_rfl) rfl
    have e1 := Flow.see_new 17 9 hH.sees (by kernel_rfl) (by kernel_rfl) rfl rfl
    have fa0 : (fun W => Blk W (w.heap.size + 1) 39 (zn)) W := hH.fact _ (List.mem_of_getElem? (i := 0) rfl) rfl
    refine wpList_storeAll W rfl 39 _ _ rfl (w.heap.size + 1) 39 _ (bcells S).toArray fa0 (by simpa [Act.eval] using e0) (by simpa [Act.eval] using e1) (by rw [List.size_toArray, bcells_length, HSl.out]; kernel_rfl) (by rw [List.size_toArray, bcells_length, HSl.out]; kernel_rfl) (fun v hv => bcells_one _ v (by simpa using hv)) ?_
    intro W2 h2 hg _
    exact Flow.qq_nil ⟨_, rfl, Chg.grown hg (by rintro k h; cases h; rfl), h2⟩
  refine Flow.pass_end [none, none, none, none, none, none, none, none, some 8, some 9, some 10, some 11, some 12, some 13, some 14, some 15, some 16, some 17] (by kernel_rfl) ?_
  intro f g w9 hB9 hfa hT2 hfg
  have h4 := hT2 10 _ (by kernel_rfl) rfl
  have hBw9 := hBw0.drew.trans (hB9.mono (by omega))
  clear hfa hT2 hfg hBw0 hB9
  simp only [Reg.sel]
  go_wp2
  refine bodyPost_ret (results_cell_row rfl _ _ (w.heap.size + 1) _ _ _ _ rfl h4 Tryz.underlying39 rfl (by rw [List.size_toArray, bcells_length, HSl.out]; kernel_rfl)) rfl ⟨rfl, hBw9⟩

end Go.Proofs.YtipdmhppadapkaaGreatDoor
/-
  Walk: ltree.Leaf.
-/
namespace Go.Proofs.YtipdmhppadapkaaGreatDoor
open Go.RowKit Sha

structure LfI (w : World) (sd : Nd) (leaf : Nat) (wr : World) : Prop where
  S : Blk wr w.heap.size 39 (bcells sd).toArray
  I : Blk wr (w.heap.size + 1) 23 #[.int .u32 (leaf : Int)]
  N : Blk wr (w.heap.size + 2) 39 zn
  B : Below w.heap.size w wr
theorem LfI.below {w wr w' : World} {sd : Nd} {leaf B : Nat} (h : LfI w sd leaf wr) (hb : Below B wr w') (hB : w.heap.size + 2 < B) : LfI w sd leaf w' :=
  ⟨h.S.below hb (by omega), h.I.below hb (by omega), h.N.below hb hB, h.B.trans (hb.mono (by omega))⟩

set_option maxRecDepth 100000 in
set_option maxHeartbeats 4000000 in
theorem mleaf_in (sd : Nd) (hsd : sd.length = 32) (leaf : Nat) (A0 : Option Addr) (n0 c0 : Nat) (ns : List Nd) (hn0 : n0 = ns.length) (h32 : All32 ns) (h1 : 1 ≤ n0) (h1000 : n0 ≤ 1000) (hcc0 : n0 ≤ c0) (w : World) (hR : Rd w w.heap.size 32 A0 n0 (ncells ns)) (hT : Tabs w) :
    Calls Tryz.prog 81 #[.slice A0 n0 c0, .agg (bcells sd).toArray, .int .u32 (leaf : Int)] w fun e w' => e = .returned (.agg (bcells (leafV (joinL sd leaf) n0 0 ns)).toArray) ∧ Below w.heap.size w w' := by
  have hz := zeroNode
  have sdL := Lib.hid hsd
  have H32 := Lib.hid h32
  have Hn0 := Lib.hid hn0
  obtain ⟨V, hV⟩ : ∃ V, V = leafV (joinL sd leaf) n0 0 ns := ⟨_, rfl⟩
  rw [← hV]
  have HV := Lib.hid hV
  clear hV
  have hj : ∀ h i a b, (joinL sd leaf h i a b).length = 32 := fun _ _ _ _ => keyed_length _ _
  have HVl : Hid (V.length = 32) := Lib.hid (by rw [HV.out]; exact leafV_length _ hj _ _ _ h32 (by omega))
  have hS := ((Blk.new w 39 (bcells sd).toArray).alloc (.cells #[.int .u32 (leaf : Int)] 23)).alloc (.cells zn 39)
  have hI := (blk_new1 w (.cells (bcells sd).toArray 39) 23 #[.int .u32 (leaf : Int)]).alloc (.cells zn 39)
  have hN := blk_new2 w (.cells (bcells sd).toArray 39) (.cells #[.int .u32 (leaf : Int)] 23) 39 zn
  have B0 : Below w.heap.size w (((w.alloc (.cells (bcells sd).toArray 39)).alloc (.cells #[.int .u32 (leaf : Int)] 23)).alloc (.cells zn 39)) := (((Below.refl _ _).alloc (Nat.le_refl _) _).alloc (by simp) _).alloc (by simp; omega) _
  have hs0 : Hid ((((w.alloc (.cells (bcells sd).toArray 39)).alloc (.cells #[.int .u32 (leaf : Int)] 23)).alloc (.cells zn 39)).heap.size = w.heap.size + 3) := Lib.hid (by simp)
  have h0 : ¬ (n0 : Int) = 0 := by omega
  have h0' : ((n0 : Int) == 0) = false := by simpa using h0
  have h10 : ¬ (1000 : Int) < (n0 : Int) := by omega
  clear hsd h32 hn0
  go_enter Tryz.func81, Tryz.ntmps81
  go_wp2_with fail
  generalize ((w.alloc (.cells (bcells sd).toArray 39)).alloc (.cells #[.int .u32 (leaf : Int)] 23)).alloc (.cells zn 39) = W0 at *
  have hJ0 : LfI w sd leaf (W0.alloc (.cells #[.int .u32 0] 23)) := ⟨hS.alloc _, hI.alloc _, hN.alloc _, B0.alloc B0.size _⟩
  have hG0 : Blk (W0.alloc (.cells #[.int .u32 0] 23)) (w.heap.size + 3) 23 #[.int .u32 ((0 : Nat) : Int)] := by
    have := Blk.new W0 23 #[.int .u32 0]
    rw [hs0.out] at this; exact this
  have hR0 := ((hR.below hJ0.B).more (Nat.le_add_right w.heap.size 3))
  clear hS hI hN B0 h0 h0' h10 hs0
  generalize W0.alloc (.cells #[.int .u32 0] 23) = W1 at *
  go_loopw [0, 7] (fun v g wr => ∃ (A : Option Addr) (n c : Nat) (cur : List Nd) (gh h fuel : Nat), v = .slice A n c ∧ g = .pointer (some ⟨gh, 0, none⟩) ∧ n = cur.length ∧ All32 cur ∧ 1 ≤ n ∧ n ≤ c ∧ n ≤ fuel ∧ h + n ≤ 1000 ∧ w.heap.size + 2 < gh ∧
    leafV (joinL sd leaf) fuel h cur = V ∧ Rd wr gh 32 A n (ncells cur) ∧ Blk wr gh 23 #[.int .u32 (h : Int)] ∧ LfI w sd leaf wr) (fun v _ _ => sliceLen v)
  case atStart => exact ⟨A0, n0, c0, ns, w.heap.size + 3, 0, n0, rfl, rfl, Hn0.out, H32.out, h1, hcc0, Nat.le_refl _, by omega, by omega, HV.out.symm, hR0, hG0, hJ0⟩
  case round =>
    clear hJ0 hG0 hR0
    obtain ⟨A, n, c, cur, gh, h, fuel, rfl, rfl, hn, hall, hn1, hnc, hfu, hhn, hgh, hval, hRc, hG, hJ⟩ := hrel
    have hghl := hG.lt
    have Hn := Lib.hid hn
    have Hall := Lib.hid hall
    have Hval := Lib.hid hval
    clear hn hall hval
    by_cases hgt : 1 < n
    · have hTr := hT.below hJ.B
      obtain ⟨fuel, rfl⟩ : ∃ f, fuel = f + 1 := ⟨fuel - 1, by omega⟩
      have hcell := hG.cell 0
      have hwh : IntKind.u32.wrap ((h : Int) + 1) = ((h + 1 : Nat) : Int) := IntWalk.u32_in _ (by omega)
      have hcall : Hid (∀ (x : Pr) W, Below wr.heap.size wr W → Calls Tryz.prog 124 (prEncs x ++ #[.pointer (some ⟨w.heap.size, 0, none⟩), .pointer (some ⟨w.heap.size + 1, 0, none⟩), .pointer (some ⟨gh, 0, none⟩)]) W fun e w' => e = .returned (.agg (bcells (joinL sd leaf h x.1.1 x.1.2.1 x.1.2.2)).toArray) ∧ Below W.heap.size W w') := Lib.hid fun x W hB =>
        mleaf1_any w.heap.size (w.heap.size + 1) gh sd sdL.out leaf h x W (hJ.S.below hB hJ.S.lt) (hJ.I.below hB hJ.I.lt) (hG.below hB hG.lt) (hTr.below hB)
      go_wp2_with fail
      refine (up_any 124 Tryz.f124 _ Tryz.func124 rfl (by kernel_rfl) _ (joinL sd leaf h) (hj h) A n c cur Hall.out Hn.out hn1 (by omega) hnc wr (hRc.more (Nat.le_of_lt hghl)) hcall.out).mono ?_
      rintro e w1 ⟨A', c', rfl, hc', hR', hB'⟩
      have hG1 := hG.below hB' hG.lt
      have hJ1 := hJ.below hB' hJ.N.lt
      have hlen : Hid ((upL (joinL sd leaf h) cur).length = (n + 1) / 2) := Lib.hid (by rw [upL_length, Hn.out])
      have hall2 := Lib.hid (upL_all (joinL sd leaf h) cur (hj h) Hall.out)
      have hval2 : Hid (leafV (joinL sd leaf) fuel (h + 1) (upL (joinL sd leaf h) cur) = V) := Lib.hid (by rw [← leafV_step _ _ _ _ (by have := Hn.out; omega)]; exact Hval.out)
      clear hcall hG hJ hB' hRc hTr
      generalize upL (joinL sd leaf h) cur = cur2 at *
      have hg1 : w1.cell? ⟨gh, 0, none⟩ = some (.int .u32 (h : Int)) := (hG1.cell 0).trans rfl
      have hG2 : Blk (w1.alloc (.cells #[.int .u32 ((h + 1 : Nat) : Int)] 23)) w1.heap.size 23 #[.int .u32 ((h + 1 : Nat) : Int)] := Blk.new _ _ _
      have hJ2 : LfI w sd leaf (w1.alloc (.cells #[.int .u32 ((h + 1 : Nat) : Int)] 23)) := hJ1.below ((Below.refl w1.heap.size w1).alloc (Nat.le_refl _) _) hJ1.N.lt
      have hR2 := hR'.alloc (Nat.le_refl _) (.cells #[.int .u32 ((h + 1 : Nat) : Int)] 23)
      have hgl : w.heap.size + 2 < w1.heap.size := hJ1.N.lt
      clear hJ1 hR'
      go_wp2_with fail
      go_roundw
      case rel => exact ⟨A', cur2.length, c', cur2, w1.heap.size, h + 1, fuel, rfl, rfl, rfl, hall2.out, by have := hlen.out; omega, hc', by have := hlen.out; omega, by have := hlen.out; omega, hgl, hval2.out, hR2, hG2, hJ2⟩
      case measure =>
        have := hlen.out
        simp [sliceLen]; omega
    · obtain rfl : n = 1 := by omega
      obtain ⟨ab, ao, rfl, hab, hrg⟩ := hRc.range (by omega)
      have hx := range_node hrg Hall.out 0 (by have := Hn.out; omega)
      have hxe : cur[0]'(by have := Hn.out; omega) = V := by
        have := Hval.out
        rw [leafV_one _ _ _ _ (by have := Hn.out; omega), at_get _ _ (by have := Hn.out; omega)] at this
        exact this
      rw [hxe] at hx
      simp only [Nat.zero_mul, Nat.add_zero] at hx
      have hx : wr.rangeAt ab ao (bcells V) := hx
      go_wp2_with (first
        | ((with_reducible refine at_load 39 ?_); refine wpList_runV rfl (reg_loadRange 39 27 rfl rfl hx Tryz.underlying39 rfl (by rw [List.size_toArray, bcells_length, HVl.out]; exact infNode)) ?_)
        | ((with_reducible refine at_store 39 ?_); refine wpList_storeAll _ rfl 39 _ _ rfl (w.heap.size + 2) 39 _ (bcells V).toArray hJ.N rfl rfl (by rw [List.size_toArray, bcells_length, HVl.out]; kernel_rfl) (by rw [List.size_toArray, bcells_length, HVl.out]; kernel_rfl) (fun v hv => bcells_one _ v (by simpa using hv)) ?_; intro w5 h5 hg5 hs5))
      refine bodyPost_ret (results_cell_row rfl _ _ (w.heap.size + 2) _ _ _ _ rfl h5 Tryz.underlying39 rfl (by rw [List.size_toArray, bcells_length, HVl.out]; kernel_rfl)) rfl ⟨rfl, ?_⟩
      exact grown_below hJ.B hg5 hJ.B.size (by omega)
end Go.Proofs.YtipdmhppadapkaaGreatDoor
/-
  Walk: portreeveref04.Leaf; both Leafs at no nodes, or too many.
-/
namespace Go.Proofs.YtipdmhppadapkaaGreatDoor
open Go.RowKit Sha

theorem run_ltreeAd (a h k : Nat) (W : World) : (Instr.build 162 #[(2, .int .u32 1), (3, .int .u32 (a : Int)), (4, .int .u32 (h : Int)), (5, .int .u32 (k : Int))]).run Tryz.prog W = .ok (.agg (ltreeAd a h k).cells) W := by kernel_rfl

set_option maxRecDepth 100000 in
set_option maxHeartbeats 4000000 in
theorem rleaf_in (sd : Nd) (hsd : sd.length = 32) (leaf : Nat) (hleaf : leaf < 4294967296) (A0 : Option Addr) (n0 c0 : Nat) (ns : List Nd) (hn0 : n0 = ns.length) (h32 : All32 ns) (h1 : 1 ≤ n0) (h1000 : n0 ≤ 1000) (w : World) (hR : Rd w w.heap.size 32 A0 n0 (ncells ns)) :
    Calls Tryz.prog 47 #[.slice A0 n0 c0, .agg (bcells sd).toArray, .int .u32 (leaf : Int)] w fun e w' => e = .returned (.agg (bcells (leafV (joinL sd leaf) n0 0 ns)).toArray) ∧ Below w.heap.size w w' := by
  have hz := zeroNode
  have sdL := Lib.hid hsd
  have H32 := Lib.hid h32
  have Hn0 := Lib.hid hn0
  obtain ⟨V, hV⟩ : ∃ V, V = leafV (joinL sd leaf) n0 0 ns := ⟨_, rfl⟩
  rw [← hV]
  have HV := Lib.hid hV
  clear hV
  have hj : ∀ h i a b, (joinL sd leaf h i a b).length = 32 := fun _ _ _ _ => keyed_length _ _
  have HVl : Hid (V.length = 32) := Lib.hid (by rw [HV.out]; exact leafV_length _ hj _ _ _ h32 (by omega))
  have hS := (Blk.new w 39 (bcells sd).toArray).alloc (.cells zn 39)
  have hN := blk_new1 w (.cells (bcells sd).toArray 39) 39 zn
  have B0 : Below w.heap.size w ((w.alloc (.cells (bcells sd).toArray 39)).alloc (.cells zn 39)) := ((Below.refl _ _).alloc (Nat.le_refl _) _).alloc (by simp) _
  have h0 : ¬ (n0 : Int) = 0 := by omega
  have h0' : ((n0 : Int) == 0) = false := by simpa using h0
  have h10 : ¬ (1000 : Int) < (n0 : Int) := by omega
  clear hsd h32 hn0
  go_enter Tryz.func47, Tryz.ntmps47
  go_wp2_with fail
  generalize (w.alloc (.cells (bcells sd).toArray 39)).alloc (.cells zn 39) = W1 at *
  have hR0 := ((hR.below B0).more B0.size)
  clear h0 h0' h10
  go_loopw [0, 7] (fun v g wr => ∃ (A : Option Addr) (n c : Nat) (cur : List Nd) (h fuel : Nat), v = .slice A n c ∧ g = .int .u32 (h : Int) ∧ n = cur.length ∧ All32 cur ∧ 1 ≤ n ∧ n ≤ fuel ∧ h + n ≤ 1000 ∧
    leafV (joinL sd leaf) fuel h cur = V ∧ Rd wr wr.heap.size 32 A n (ncells cur) ∧ Blk wr w.heap.size 39 (bcells sd).toArray ∧ Blk wr (w.heap.size + 1) 39 zn ∧ Below w.heap.size w wr) (fun v _ _ => sliceLen v)
  case atStart => exact ⟨A0, n0, c0, ns, 0, n0, rfl, rfl, Hn0.out, H32.out, h1, Nat.le_refl _, by omega, HV.out.symm, hR0, hS, hN, B0⟩
  case round =>
    clear hS hN B0 hR0
    obtain ⟨wo, rfl⟩ : ∃ wo : World, wo = wr := ⟨_, rfl⟩
    obtain ⟨A, n, c0, cur, h, fuel, rfl, rfl, hn, hall, hn1, hfu, hhn, hval, hRc, hV0, hN0, hB0⟩ := hrel
    have Hn := Lib.hid hn
    have Hall := Lib.hid hall
    have Hval := Lib.hid hval
    clear hn hall hval
    obtain ⟨ab, ao, rfl, hab, hrg⟩ := hRc.range (by omega)
    by_cases hgt : 1 < n
    · obtain ⟨fuel, rfl⟩ : ∃ f, fuel = f + 1 := ⟨fuel - 1, by omega⟩
      have hwh : IntKind.u32.wrap ((h : Int) + 1) = ((h + 1 : Nat) : Int) := IntWalk.u32_in _ (by omega)
      have hlen : Hid ((upL (joinL sd leaf h) cur).length = (n + 1) / 2) := Lib.hid (by rw [upL_length, Hn.out])
      have hall2 := Lib.hid (upL_all (joinL sd leaf h) cur (hj h) Hall.out)
      have hval2 : Hid (leafV (joinL sd leaf) fuel (h + 1) (upL (joinL sd leaf h) cur) = V) := Lib.hid (by rw [← leafV_step _ _ _ _ (by have := Hn.out; omega)]; exact Hval.out)
      obtain ⟨jl, hjl⟩ : ∃ jl : Nat → Nd, jl = fun i => joinL sd leaf h i (at_ cur (2 * i)) (at_ cur (2 * i + 1)) := ⟨_, rfl⟩
      have hup : Hid (upL (joinL sd leaf h) cur = upto jl (n / 2) ++ cur.drop (n / 2 * 2)) := Lib.hid (by rw [hjl, Hn.out]; rfl)
      have HJ := Lib.hid hjl
      clear hjl
      obtain ⟨g0, hg0e⟩ : ∃ g, g = wo.heap.size := ⟨_, rfl⟩
      have Hg0 := Lib.hid hg0e
      have hVl := hV0.lt
      have hNl := hN0.lt
      rw [← hg0e] at hab hVl hNl
      clear hg0e
      go_wp2_with fail
      go_loopw [8, 9] (fun v i wr => ∃ (k : Nat) (A : Option Addr) (c : Nat), k ≤ n / 2 ∧ v = .slice A k c ∧ i = .int .i64 ((2 * k : Nat) : Int) ∧ wr.ownsRow g0 39 32 (.slice A k c) k (ncells (upto jl k)) ∧ Below g0 wo wr) (fun _ i _ => n - (intOf i).toNat)
      case atStart => exact ⟨0, none, 0, Nat.zero_le _, rfl, rfl, World.ownsRow_nil _ _ _ _, by rw [Hg0.out]; exact Below.refl _ _⟩
      case round =>
        obtain ⟨k, A, c, hk, rfl, rfl, hO, hBl⟩ := hrel
        have hgr : g0 ≤ wr.heap.size := by have := Hg0.out; have := hBl.size; omega
        obtain ⟨p, hp⟩ : ∃ p, p = 2 * k := ⟨_, rfl⟩
        obtain ⟨p1, hp1⟩ : ∃ p, p = 2 * k + 1 := ⟨_, rfl⟩
        rw [← hp]
        have hwp1 : IntKind.i64.wrap ((p : Int) + 1) = (p1 : Int) := by rw [IntKind.wrap_i64]; omega
        by_cases hin : k < n / 2
        · have hg0 : g0 ≤ wr.drew.heap.size := hgr
          have hpN : p < cur.length := by have := Hn.out; omega
          have hp1N : p1 < cur.length := by have := Hn.out; omega
          have hx1 := (range_node hrg Hall.out p hpN).later hBl hab
          have hx2 := (range_node hrg Hall.out p1 hp1N).later hBl hab
          have hxl := Hall.out _ (List.getElem_mem hpN)
          have hyl := Hall.out _ (List.getElem_mem hp1N)
          obtain ⟨x1, ex1⟩ : ∃ x, x = cur[p] := ⟨_, rfl⟩
          obtain ⟨x2, ex2⟩ : ∃ x, x = cur[p1] := ⟨_, rfl⟩
          rw [← ex1] at hx1 hxl
          rw [← ex2] at hx2 hyl
          obtain ⟨S, hSe⟩ : ∃ S, S = randH x1 x2 sd (ltreeAd leaf h k) := ⟨_, rfl⟩
          have HSl : Hid (S.length = 32) := Lib.hid (by rw [hSe]; exact keyed_length _ _)
          have HU : Hid (upto jl (k + 1) = upto jl k ++ [S]) := Lib.hid (by
            rw [upto_succ, HJ.out, hSe, ex1, ex2]
            subst hp hp1
            simp only [joinL, at_get _ _ hpN, at_get _ _ hp1N])
          have HS := Lib.hid hSe
          have x1L := Lib.hid hxl
          have x2L := Lib.hid hyl
          have hV9 := (hV0.below hBl hVl).drew
          have hok : (ltreeAd leaf h k).ok := ltreeAd_ok hleaf (by omega) (by omega)
          have hpi : (p : Int) < (n : Int) := by omega
          have hp1i : (p1 : Int) < (n : Int) := by omega
          have hpk : IntKind.i64.wrap ((p : Int) / 2) = (k : Int) := by rw [IntKind.wrap_i64]; omega
          have hwk : IntKind.u32.wrap (k : Int) = (k : Int) := IntWalk.u32_in _ (by omega)
          have hwp2 : IntKind.i64.wrap ((p : Int) + 2) = ((2 * (k + 1) : Nat) : Int) := by rw [IntKind.wrap_i64]; omega
          have hk1000 : k ≤ 1000 := by omega
          have hx1 : wr.drew.rangeAt ab (ao + p * 32) (bcells x1) := hx1
          have hx2 : wr.drew.rangeAt ab (ao + p1 * 32) (bcells x2) := hx2
          clear ex1 ex2 hSe hxl hyl hpN hp1N
          have Hp := Lib.hid hp
          clear hp hp1
          generalize upto jl k = ns0 at *
          go_wp2_with fail
          refine Flow.wp_region_flow (g0) [(19, fun b => (Value.slice A k c).ownBlock = some b)] [(19, fun W => W.ownsRow g0 39 32 (.slice A k c) k (ncells ns0))] (by kernel_rfl) (by kernel_rfl) hg0 (Flow.nz_cons (fun b hb => (own_some hO hb).1) Flow.nz_nil) (Flow.facts_cons (hO.drew) (Flow.kept_own (fun _ _ => id)) (Flow.fz_cons (Flow.no_follow (by kernel_rfl)) Flow.fz_nil) Flow.facts_nil) ?_
          refine Flow.pass_old 8 (Flow.met_none rfl) (.inl rfl) (by kernel_rfl) (by kernel_rfl) rfl ?_
          refine Flow.pass_old (X := .slice (some ⟨ab, ao, none⟩) n c0) 0 (Flow.met_none rfl) (.inl rfl) (by kernel_rfl) (by kernel_rfl) rfl ?_
          refine Flow.pass_old (X := .int .i64 (p : Int)) 9 (Flow.met_none rfl) (.inl rfl) (by kernel_rfl) (by kernel_rfl) rfl ?_
          refine Flow.pass_val (.pointer (some ⟨ab, ao + p * 32, none⟩)) (Flow.met_none rfl) (fun a W hH => ?_) ?_
          · have e0 := Flow.see_new 32 1 hH.sees (by kernel_rfl) (by kernel_rfl) rfl rfl
            have e1 := Flow.see_new 33 2 hH.sees (by kernel_rfl) (by kernel_rfl) rfl rfl
            go_simp
          refine Flow.pass_val (.agg (bcells x1).toArray) (Flow.met_none rfl) (fun a W hH => ?_) ?_
          · have e0 := Flow.see_new 34 3 hH.sees (by kernel_rfl) (by kernel_rfl) rfl rfl
            exact reg_loadRange 39 _ rfl e0 (hx1.later hH.below hab) Tryz.underlying39 rfl (by rw [List.size_toArray, bcells_length, x1L.out]; exact infNode)
          refine Flow.pass_old (X := .slice (some ⟨ab, ao, none⟩) n c0) 0 (Flow.met_none rfl) (.inl rfl) (by kernel_rfl) (by kernel_rfl) rfl ?_
          refine Flow.pass_old (X := .int .i64 (p : Int)) 9 (Flow.met_none rfl) (.inl rfl) (by kernel_rfl) (by kernel_rfl) rfl ?_
          refine Flow.pass_val (.int .i64 (p1 : Int)) (Flow.met_none rfl) (fun a W hH => ?_) ?_
          · have e0 := Flow.see_new 37 6 hH.sees (by kernel_rfl) (by kernel_rfl) rfl rfl
            go_simp; first | done | rfl | rw [hwp1]
          refine Flow.pass_val (.pointer (some ⟨ab, ao + p1 * 32, none⟩)) (Flow.met_none rfl) (fun a W hH => ?_) ?_
          · have e0 := Flow.see_new 36 5 hH.sees (by kernel_rfl) (by kernel_rfl) rfl rfl
            have e1 := Flow.see_new 38 7 hH.sees (by kernel_rfl) (by kernel_rfl) rfl rfl
            go_simp
          refine Flow.pass_val (.agg (bcells x2).toArray) (Flow.met_none rfl) (fun a W hH => ?_) ?_
          · have e0 := Flow.see_new 39 8 hH.sees (by kernel_rfl) (by kernel_rfl) rfl rfl
            exact reg_loadRange 39 _ rfl e0 (hx2.later hH.below hab) Tryz.underlying39 rfl (by rw [List.size_toArray, bcells_length, x2L.out]; exact infNode)
          refine Flow.pass_val (.agg (bcells sd).toArray) (Flow.met_none rfl) (fun a W hH => ?_) ?_
          · have e0 := Flow.see_old 4 hH.sees (by kernel_rfl) (by kernel_rfl) rfl
            exact reg_load 39 _ rfl e0 (hV9.below hH.below hVl) Tryz.underlying39 rfl (by rw [List.size_toArray, bcells_length, sdL.out]; exact infNode)
          refine Flow.pass_old (X := .int .u32 (leaf : Int)) 2 (Flow.met_none rfl) (.inl rfl) (by kernel_rfl) (by kernel_rfl) rfl ?_
          refine Flow.pass_old (X := .int .u32 (h : Int)) 7 (Flow.met_none rfl) (.inl rfl) (by kernel_rfl) (by kernel_rfl) rfl ?_
          refine Flow.pass_old (X := .int .i64 (p : Int)) 9 (Flow.met_none rfl) (.inl rfl) (by kernel_rfl) (by kernel_rfl) rfl ?_
          refine Flow.pass_val (.int .i64 (k : Int)) (Flow.met_none rfl) (fun a W hH => ?_) ?_
          · have e0 := Flow.see_new 44 13 hH.sees (by kernel_rfl) (by kernel_rfl) rfl rfl
            go_simp; first | done | rfl | rw [hpk]
          refine Flow.pass_val (.int .u32 (k : Int)) (Flow.met_none rfl) (fun a W hH => ?_) ?_
          · have e0 := Flow.see_new 45 14 hH.sees (by kernel_rfl) (by kernel_rfl) rfl rfl
            go_simp; first | done | rfl | rw [hwk]
          refine Flow.pass_val (.agg (ltreeAd leaf h k).cells) (Flow.met_none rfl) (fun a W hH => ?_) ?_
          · have e0 := Flow.see_new 42 11 hH.sees (by kernel_rfl) (by kernel_rfl) rfl rfl
            have e1 := Flow.see_new 43 12 hH.sees (by kernel_rfl) (by kernel_rfl) rfl rfl
            have e2 := Flow.see_new 46 15 hH.sees (by kernel_rfl) (by kernel_rfl) rfl rfl
            exact Flow.reg_build _ rfl (by simp [Act.eval, e0, e1, e2]) (run_ltreeAd leaf h k W)
          refine Flow.pass_step (Reg.eqs (.agg (bcells S).toArray)) (fun _ _ => Flow.kept_eqs _ _) (Flow.met_none rfl) (fun a W hH => ?_) ?_
          · have e0 := Flow.see_new 35 4 hH.sees (by kernel_rfl) (by kernel_rfl) rfl rfl
            have e1 := Flow.see_new 40 9 hH.sees (by kernel_rfl) (by kernel_rfl) rfl rfl
            have e2 := Flow.see_new 41 10 hH.sees (by kernel_rfl) (by kernel_rfl) rfl rfl
            have e3 := Flow.see_new 47 16 hH.sees (by kernel_rfl) (by kernel_rfl) rfl rfl
            refine Reg.wp_call rfl Tryz.func86 rfl (by kernel_rfl) (by simp [Act.eval, e0, e1, e2, e3]) (rrand_any x1 x2 sd x1L.out x2L.out sdL.out (ltreeAd leaf h k) hok W) ?_
            rintro e w' ⟨rfl, hB⟩
            rw [← HS.out]
            exact ⟨_, rfl, _, rfl, hB, rfl⟩
          refine Flow.pass_gen (fun v W => ∃ b, v = .slice (some ⟨b, 0, none⟩) 1 1 ∧ (wr.heap.size ≤ b ∧ Blk W b 39 (bcells S).toArray)) (Flow.kept_of (fun _ _ _ c ⟨b, h1, h2, h3⟩ => ⟨b, h1, h2, h3.chg c id⟩) (Flow.kz_cons (fun _ => fun _ _ _ c ⟨b, h1, h2, h3⟩ => ⟨b, h1, h2, h3.chg c (fun hb => by have := (own_some hO hb).2; omega)⟩) Flow.kz_nil)) (Flow.met_none rfl) (fun a W hH => ?_) ?_
          · have e0 := Flow.see_new 48 17 hH.sees (by kernel_rfl) (by kernel_rfl) rfl rfl
            refine Flow.wp_run (Flow.reg_buildSlice _ rfl (by simp [Act.eval, e0]) (run_nodeS W S HSl.out)) ?_
            exact ⟨_, rfl, Chg.of_ext ((Ext.refl W).alloc _), W.heap.size, rfl, hH.below.size, Blk.new _ _ _⟩
          refine Flow.pass_list (fun v W => ∃ A1 c1, v = .slice A1 (k + 1) c1 ∧ W.ownsRow g0 39 32 (.slice A1 (k + 1) c1) (k + 1) ((ncells ns0) ++ bcells S)) (Flow.kept_of (fun _ _ _ c ⟨A1, c1, h1, h2⟩ => ⟨A1, c1, h1, own_chg h2 c (fun _ _ => id)⟩) (Flow.kz_cons (Flow.no_follow (by kernel_rfl)) Flow.kz_nil)) (Flow.met_none rfl) (fun a W hH => ?_) ?_
          · have e0 := Flow.see_new 31 0 hH.sees (by kernel_rfl) (by kernel_rfl) rfl rfl
            obtain ⟨b1, e1, q1⟩ := Flow.see_up 49 18 hH.sees (by kernel_rfl) (by kernel_rfl) rfl rfl
            have fa0 : (fun W => W.ownsRow g0 39 32 (.slice A k c) k (ncells ns0)) W := hH.fact _ (List.mem_of_getElem? (i := 0) rfl) rfl
            refine wpList_app W elNz rfl _ _ rfl g0 A k c _ (by simpa [Act.eval] using e0) fa0 W.heap.size (some ⟨b1, 0, none⟩) 1 1 (bcells S) (by simpa [Act.eval] using e1) (by have := q1.2.rd (size := 32) (n := 1) (by simp [bcells_length, HSl.out]); simpa using this) (bcells_one S) (by omega) (by omega) (Nat.le_trans hg0 hH.below.size) ?_
            intro A1 c1 W2 hO2 hg hB _
            exact Flow.qq_nil ⟨_, rfl, Chg.grown hg (fun b hb => hb), A1, c1, rfl, hO2⟩
          refine Flow.pass_copy 50 19 (Flow.met_none rfl) (.inr rfl) (by kernel_rfl) (by kernel_rfl) rfl rfl (Flow.kept_of (fun _ _ _ c ⟨A1, c1, h1, h2⟩ => ⟨A1, c1, h1, own_chg h2 c (fun _ _ => id)⟩) (Flow.kz_cons (Flow.no_follow (by kernel_rfl)) Flow.kz_nil)) ?_
          refine Flow.pass_end [none, none, none, none, none, none, none, none, some 8, none, none, none, none, none, none, none, none, none, none, none, none, none, none, none, none, none, none, none, none, none, none, some 31, some 32, some 33, some 34, some 35, some 36, some 37, some 38, some 39, some 40, some 41, some 42, some 43, some 44, some 45, some 46, some 47, some 48, some 49, some 50, none, none, none, none, none, none, none, none, none, none, none, none, none, none, none, none, none] (by kernel_rfl) ?_
          intro f gg w9 hB hfa hT hfg
          obtain ⟨A18, c18, h8, g8⟩ := hT 20 _ (by kernel_rfl) rfl
          rw [← hfg 8 20 (by kernel_rfl)] at h8
          simp only [Reg.sel, h8]
          have hB9 := (hBl.drew).trans hB
          clear hfa hT hfg hV9 hx1 hx2 hpk hwk
          go_wp2_with fail
          go_roundw
          case rel => exact ⟨k + 1, A18, c18, by omega, rfl, by first | rfl | go_num | (simp only [Value.int.injEq, true_and]; have := Hp.out; omega), by rw [HU.out, ncells_snoc]; exact g8, hB9⟩
          case measure =>
            have := Hp.out
            simp [intOf]; omega
        · obtain rfl : k = n / 2 := by omega
          have hp1i : ¬ (p1 : Int) < (n : Int) := by omega
          generalize upL (joinL sd leaf h) cur = cur2 at *
          generalize upto jl (n / 2) = ns0 at *
          clear hp hp1 HJ
          by_cases hpar : n % 2 = 1
          · obtain ⟨q, hq⟩ : ∃ q, q = n - 1 := ⟨_, rfl⟩
            have hr1 : (n : Int) % 2 = 1 := by omega
            have hwq : IntKind.i64.wrap ((n : Int) - 1) = (q : Int) := by rw [IntKind.wrap_i64]; omega
            have hqi : (q : Int) < (n : Int) := by omega
            have hqN : q < cur.length := by have := Hn.out; omega
            have hx := (range_node hrg Hall.out q hqN).later hBl hab
            have hxl := Hall.out _ (List.getElem_mem hqN)
            have hdrop : cur.drop (n / 2 * 2) = [cur[q]] := by
              rw [show n / 2 * 2 = q by omega, List.drop_eq_getElem_cons hqN, List.drop_eq_nil_of_le (by have := Hn.out; omega)]
            obtain ⟨xl, exl⟩ : ∃ x, x = cur[q] := ⟨_, rfl⟩
            rw [← exl] at hx hxl hdrop
            have hcur : Hid (ncells ns0 ++ bcells xl = ncells cur2) := Lib.hid (by rw [hup.out, hdrop, ncells_snoc])
            have xlL := Lib.hid hxl
            have HRx : Hid (Rd (wr.alloc (.cells (bcells xl).toArray 39)) (wr.alloc (.cells (bcells xl).toArray 39)).heap.size 32 (some ⟨wr.heap.size, 0, none⟩) 1 (bcells xl)) := Lib.hid (by
              have := (Blk.new wr 39 (bcells xl).toArray).rd (size := 32) (n := 1) (by simp [bcells_length, hxl])
              simpa using this)
            clear exl hxl hqN hdrop hup hq
            go_wp2_with (first
              | ((with_reducible refine at_load 39 ?_); refine wpList_runV rfl (reg_loadRange 39 60 rfl rfl hx Tryz.underlying39 rfl (by rw [List.size_toArray, bcells_length, xlL.out]; exact infNode)) ?_)
              | ((with_reducible refine at_buildSlice 100 ?_); refine wpList_runV rfl (Flow.reg_buildSlice #[(0, .agg (bcells xl).toArray)] rfl (by first | rfl | simp [Act.eval, Act.put]) (run_nodeS wr xl xlL.out)) ?_)
              | ((with_reducible refine at_append ?_); refine wpList_app _ elNz rfl _ _ rfl g0 A (n / 2) c (ncells ns0) rfl (hO.alloc _) _ (some ⟨wr.heap.size, 0, none⟩) 1 1 (bcells xl) rfl HRx.out (bcells_one xl) (by omega) (by omega) (by simp; omega) ?_; intro A9 c9 w9 hO9 hg9 hB9 _))
            have hBo : Below g0 wo w9 := hBl.trans (((Below.refl g0 wr).alloc hgr _).trans hB9)
            rw [hcur.out] at hO9
            have hl9 : cur2.length = n / 2 + 1 := by have := hlen.out; omega
            go_roundw
            case rel => exact ⟨A9, n / 2 + 1, c9, cur2, h + 1, fuel, rfl, rfl, hl9.symm, hall2.out, by omega, by omega, by omega, hval2.out, Rd.of_own hO9, hV0.below hBo hVl, hN0.below hBo hNl, hB0.trans (hBo.mono (by have := Hg0.out; have := hB0.size; omega))⟩
            case measure => simp [sliceLen]; omega
          · have hr1 : (n : Int) % 2 = 0 := by omega
            have hdrop : cur.drop (n / 2 * 2) = [] := List.drop_eq_nil_of_le (by have := Hn.out; omega)
            have hcur : Hid (ncells ns0 = ncells cur2) := Lib.hid (by rw [hup.out, hdrop, List.append_nil])
            clear hup hdrop
            go_wp2_with fail
            rw [hcur.out] at hO
            have hl9 : cur2.length = n / 2 := by have := hlen.out; omega
            go_roundw
            case rel => exact ⟨A, n / 2, c, cur2, h + 1, fuel, rfl, rfl, hl9.symm, hall2.out, by omega, by omega, by omega, hval2.out, Rd.of_own hO, hV0.below hBl hVl, hN0.below hBl hNl, hB0.trans (hBl.mono (by have := Hg0.out; have := hB0.size; omega))⟩
            case measure => simp [sliceLen]; omega
    · obtain rfl : n = 1 := by omega
      have hx := range_node hrg Hall.out 0 (by have := Hn.out; omega)
      have hxe : cur[0]'(by have := Hn.out; omega) = V := by
        have := Hval.out
        rw [leafV_one _ _ _ _ (by have := Hn.out; omega), at_get _ _ (by have := Hn.out; omega)] at this
        exact this
      rw [hxe] at hx
      simp only [Nat.zero_mul, Nat.add_zero] at hx
      have hx : wo.rangeAt ab ao (bcells V) := hx
      go_wp2_with (first
        | ((with_reducible refine at_load 39 ?_); refine wpList_runV rfl (reg_loadRange 39 66 rfl rfl hx Tryz.underlying39 rfl (by rw [List.size_toArray, bcells_length, HVl.out]; exact infNode)) ?_)
        | ((with_reducible refine at_store 39 ?_); refine wpList_storeAll _ rfl 39 _ _ rfl (w.heap.size + 1) 39 _ (bcells V).toArray hN0 rfl rfl (by rw [List.size_toArray, bcells_length, HVl.out]; kernel_rfl) (by rw [List.size_toArray, bcells_length, HVl.out]; kernel_rfl) (fun v hv => bcells_one _ v (by simpa using hv)) ?_; intro w5 h5 hg5 hs5))
      refine bodyPost_ret (results_cell_row rfl _ _ (w.heap.size + 1) _ _ _ _ rfl h5 Tryz.underlying39 rfl (by rw [List.size_toArray, bcells_length, HVl.out]; kernel_rfl)) rfl ⟨rfl, ?_⟩
      exact grown_below hB0 hg5 hB0.size (by omega)

set_option maxRecDepth 100000 in
set_option maxHeartbeats 2000000 in
theorem leafs_bad (A : Option Addr) (n c : Nat) (hn : n = 0 ∨ 1000 < n) (sd : Nd) (leaf : Int) (w : World) :
    (Calls Tryz.prog 81 #[.slice A n c, .agg (bcells sd).toArray, .int .u32 leaf] w fun e w' => e = .returned (.agg (bcells znode).toArray) ∧ Below w.heap.size w w') ∧
    (Calls Tryz.prog 47 #[.slice A n c, .agg (bcells sd).toArray, .int .u32 leaf] w fun e w' => e = .returned (.agg (bcells znode).toArray) ∧ Below w.heap.size w w') := by
  have hz := zeroNode
  have hN := blk_new2 w (.cells (bcells sd).toArray 39) (.cells #[.int .u32 leaf] 23) 39 zn
  have hN2 := blk_new1 w (.cells (bcells sd).toArray 39) 39 zn
  have B0 : Below w.heap.size w (((w.alloc (.cells (bcells sd).toArray 39)).alloc (.cells #[.int .u32 leaf] 23)).alloc (.cells zn 39)) := (((Below.refl _ _).alloc (Nat.le_refl _) _).alloc (by simp) _).alloc (by simp; omega) _
  have B02 : Below w.heap.size w ((w.alloc (.cells (bcells sd).toArray 39)).alloc (.cells zn 39)) := ((Below.refl _ _).alloc (Nat.le_refl _) _).alloc (by simp) _
  have hzs : Hid (zn.size = 32) := Lib.hid (by kernel_rfl)
  have hone : Hid (∀ v ∈ zn.toList, v.oneCell' = true) := Lib.hid (fun v hv => bcells_one znode v (by simpa [zn] using hv))
  by_cases e : n = 0
  case' pos =>
    have e1 : ((n : Int) == 0) = true := by simpa using e
    have e2 : (n : Int) = 0 := by omega
  case' neg =>
    have e1 : ((n : Int) == 0) = false := by simpa using e
    have e2 : ¬ (n : Int) = 0 := by omega
    have e3 : (1000 : Int) < (n : Int) := by omega
  all_goals
    clear hn e
    constructor
    · go_enter Tryz.func81, Tryz.ntmps81
      go_wp2_with ((with_reducible refine at_store 39 ?_); refine wpList_storeAll _ rfl 39 _ _ rfl (w.heap.size + 2) 39 _ zn hN rfl rfl rfl (by rw [hzs.out]; exact infNode) hone.out ?_; intro w5 h5 hg5 hs5)
      refine bodyPost_ret (results_cell_row rfl _ _ (w.heap.size + 2) _ _ _ _ rfl h5 Tryz.underlying39 rfl (by rw [hzs.out]; exact infNode)) rfl ⟨rfl, ?_⟩
      exact grown_below B0 hg5 B0.size (by omega)
    · go_enter Tryz.func47, Tryz.ntmps47
      go_wp2_with ((with_reducible refine at_store 39 ?_); refine wpList_storeAll _ rfl 39 _ _ rfl (w.heap.size + 1) 39 _ zn hN2 rfl rfl rfl (by rw [hzs.out]; exact infNode) hone.out ?_; intro w5 h5 hg5 hs5)
      refine bodyPost_ret (results_cell_row rfl _ _ (w.heap.size + 1) _ _ _ _ rfl h5 Tryz.underlying39 rfl (by rw [hzs.out]; exact infNode)) rfl ⟨rfl, ?_⟩
      exact grown_below B02 hg5 B02.size (by omega)

theorem mleaf_any (sd : Nd) (hsd : sd.length = 32) (leaf : Nat) (A : Option Addr) (n c : Nat) (ns : List Nd) (hn : n = ns.length) (h32 : All32 ns) (hcc : n ≤ c) (w : World) (hR : Rd w w.heap.size 32 A n (ncells ns)) (hT : Tabs w) :
    Calls Tryz.prog 81 #[.slice A n c, .agg (bcells sd).toArray, .int .u32 (leaf : Int)] w fun e w' => e = .returned (.agg (bcells (ltLeaf sd leaf ns)).toArray) ∧ Below w.heap.size w w' := by
  unfold ltLeaf
  rw [← hn]
  split
  · exact (leafs_bad A n c (by assumption) sd leaf w).1
  · exact mleaf_in sd hsd leaf A n c ns hn h32 (by omega) (by omega) hcc w hR hT
theorem rleaf_any (sd : Nd) (hsd : sd.length = 32) (leaf : Nat) (hleaf : leaf < 4294967296) (A : Option Addr) (n c : Nat) (ns : List Nd) (hn : n = ns.length) (h32 : All32 ns) (w : World) (hR : Rd w w.heap.size 32 A n (ncells ns)) :
    Calls Tryz.prog 47 #[.slice A n c, .agg (bcells sd).toArray, .int .u32 (leaf : Int)] w fun e w' => e = .returned (.agg (bcells (ltLeaf sd leaf ns)).toArray) ∧ Below w.heap.size w w' := by
  unfold ltLeaf
  rw [← hn]
  split
  · exact (leafs_bad A n c (by assumption) sd leaf w).2
  · exact rleaf_in sd hsd leaf hleaf A n c ns hn h32 (by omega) (by omega) w hR
end Go.Proofs.YtipdmhppadapkaaGreatDoor
