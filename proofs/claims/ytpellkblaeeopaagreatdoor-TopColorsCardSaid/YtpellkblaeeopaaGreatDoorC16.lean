/-
  Parts: FlowIn WordD.
-/
import Derived.Test.YtpellkblaeeopaaGreatDoorC02
import Derived.Test.YtpellkblaeeopaaGreatDoorC15
import Derived.OrdersIn
import Derived.RangeFuncCalls
import Derived.OwnWalkIn
import Derived.Test.YtpellkblaeeopaaGreatDoorC09
/-
  My two laws for a region that draws its order, in a fence: of a plain call, and of a round of a loop over a function.
-/
namespace Go.Proofs.YtpellkblaeeopaaGreatDoor
open Go.RowKit

def Plain (F : Fence) : Prop := F = Fence.wide ∨ ∃ l, F = Fence.wide.inRound l
theorem Plain.wide : Plain Fence.wide := .inl rfl
theorem Plain.round (l : Nat) : Plain (Fence.wide.inRound l) := .inr ⟨l, rfl⟩
def onlyN (Q : Exit → Act → World → Prop) : Exit → Act → World → Prop := fun e a w => e = .normal ∧ Q .normal a w
def noDefer (ops : Array Oper) : Bool := ops.all fun o => match o.op with | .defer _ => false | _ => true
theorem noDefer_get {ops : Array Oper} (h : noDefer ops = true) {i : Nat} {o : Oper} (hi : ops[i]? = some o) : ∀ c, o.op ≠ .defer c := by
  intro c hc
  have := (Array.all_eq_true'.1 h) o (Array.mem_of_getElem? hi)
  rw [hc] at this; cases this
section
variable {F : Fence} {n : Nat} {P : Program}
theorem Plain.fn (h : Plain F) (f : FuncId) : F.fn f := by rcases h with rfl | ⟨l, rfl⟩ <;> trivial
theorem Plain.depth (h : Plain F) : F.depth = none := by rcases h with rfl | ⟨l, rfl⟩ <;> rfl
theorem Plain.calls (h : Plain F) {m : Nat} {f : FuncId} {args : Array Value} {w : World} {R : Ending → World → Prop} (hc : Calls P f args w R) : CallsIn F m P f args w R := by
  rcases h with rfl | ⟨l, rfl⟩
  · exact callsIn_wide.2 hc
  · exact CallsIn.inRound l (callsIn_wide.2 hc)
theorem Plain.rows (h : Plain F) {m : Nat} {row : String} {args : Array Value} {w : World} {R : Value → World → Prop} (hc : Rows P row args w R) : RowsIn F m P row args w R := by
  rcases h with rfl | ⟨l, rfl⟩
  · exact fun c cs _ => let ⟨v, w', r, s⟩ := hc c cs; ⟨v, w', r, stepsIn_wide.2 s⟩
  · exact fun c cs _ => let ⟨v, w', r, s⟩ := hc c cs; ⟨v, w', r, stepsIn_wide.2 s⟩
/-- what an operation does outside of fences it does in one -/
theorem Oper.wp_in {Q : Exit → Act → World → Prop} {o : Oper} {a : Act} {w : World} {K K' : Act → World → Prop} (hF : Plain F) (hnd : ∀ c, o.op ≠ .defer c) (hK : ∀ a w, K a w → K' a w) (h : o.wp P a w K (onlyN Q)) : o.wpIn F n P a w K' Q := by
  unfold Oper.wpIn
  refine ⟨fun f _ => hF.fn f, ?_⟩
  rw [Oper.semAt_plain F _ _ hnd]
  unfold Oper.wp at h
  have hd : F.depth.isSome = true → 1 ≤ n := by rw [hF.depth]; intro h; cases h
  generalize (execOp a.eval o).run P w = r at *
  cases r with
  | ok x w' =>
    cases x <;> simp only [Oper.upon, Oper.uponIn] at h ⊢
    case value => exact hK _ _ h
    case skip => exact hK _ _ h
    case defer => exact hK _ _ h
    case enter =>
      refine ⟨hd, hF.calls (Calls.mono h fun e w'' he => ?_)⟩
      cases e with
      | returned v => exact hK _ _ he
      | panicked ch => exact absurd he.1 (by simp)
      | outgrown => obtain ⟨a, w, h1, _⟩ := he; cases h1
    case row => exact ⟨hd, hF.rows (Rows.mono h fun v w'' he => hK _ _ he)⟩
  | halt x w' =>
    cases x <;> simp only [Oper.upon, Oper.uponIn] at h ⊢
    exact absurd h.1 (by simp)
theorem any_in {ops : Array Oper} {Q : Exit → Act → World → Prop} (hF : Plain F) (hnd : noDefer ops = true) : ∀ (fuel : Nat) (L : Array Bool) (a : Act) (w : World), wpAny P .any ops (onlyN Q) fuel L a w → wpAnyIn F n P .any ops Q fuel L a w
  | 0, L, a, w, h => ⟨h.1, h.2.2⟩
  | fuel + 1, L, a, w, h => ⟨fun hr => (h.1 hr).2, fun i hi => by
    have h1 := h.2 i hi
    unfold wpOp at h1
    unfold wpOpIn
    cases ho : ops[i]? with
    | none => simp only [ho] at h1; exact any_in hF hnd fuel _ _ _ h1
    | some o =>
      simp only [ho] at h1 ⊢
      split at h1
      · rename_i hw
        rw [if_pos hw]
        rcases h1 with h1 | ⟨_, a', w', h2, _⟩
        · exact Oper.wp_in hF (noDefer_get hnd ho) (fun a w h => any_in hF hnd fuel _ a w h) h1
        · cases h2
      · rename_i hw
        rw [if_neg hw]
        exact ⟨fun f _ => hF.fn f, any_in hF hnd fuel _ _ _ h1⟩⟩
end
namespace Flow
section
variable {F : Fence} {n : Nat} {P : Program} {ops : Array Oper} {Q : Exit → Act → World → Prop} {a0 : Act} {w0 : World}
theorem wpIn_region_flow {id : Nat} (hF : Plain F) (hnd : noDefer ops = true) (n0 : Nat) (zs : Zs) (fs : Fs) (hm : P.follows .mixedOrders = true) (hs : Reg.shape ops a0.tmps.size = true) (hn0 : n0 ≤ w0.heap.size) (hzs : ∀ p ∈ zs, ∀ b, p.2 b → n0 ≤ b)
    (hfs : ∀ p ∈ fs, p.2 w0.drew ∧ ∀ k, mayFollow ops k p.1 = true → Kept (zone zs k) p.2)
    (h : PassR P ops (onlyN Q) a0 w0.drew n0 zs fs (fun Ts => ∀ a w, Final ops a0 w0.drew n0 fs Ts a w → onlyN Q .normal a w) ops.toList []) : (Code.region id ops true).wpIn F n P Q a0 w0 := by
  obtain ⟨Ts, hend, hl, hg⟩ := pass_get _ _ h
  simp only [List.reverse_nil, List.nil_append, List.length_nil, Nat.zero_add] at hend hg
  refine wpIn_region_any hm (any_in hF hnd _ _ _ _ (step_any (w0 := w0.drew) (n0 := n0) (fs := fs) hs hn0 hzs (fun p hp => (hfs p hp).2) (fun i o hi => hg i o (by simpa using hi)) hend _ _ _ _
    ⟨by simp, ?_, rfl, rfl, Below.refl _ _, fun t _ => rfl, ?_, fun p hp _ => (hfs p hp).1⟩ (Nat.le_trans (List.length_filter_le _ _) (by simp))))
  · intro j o hj
    exfalso
    by_cases h : j < ops.size <;> simp [h] at hj
  · intro j hj
    exfalso
    by_cases h : j < ops.size <;> simp [h] at hj
end
end Flow
namespace Reg
section
variable {F : Fence} {n : Nat} {P : Program} {ops : Array Oper} {Q : Exit → Act → World → Prop} {a0 : Act} {w0 : World}
def coverW (ops : Array Oper) (m : Nat) : Bool :=
  (List.range ops.size).all fun i => decide (i < m) || (List.range i).all fun j => Flow.waits ops 24 i j
theorem coveredW {m i j : Nat} {L : Array Bool} (hcov : coverW ops m = true) (him : m ≤ i) (hi : i < ops.size) (hj : j < i)
    (hpre : ∀ e ∈ (ops[i]'hi).after, binds e = true → L.getD e.on false = true)
    (hcl : ∀ j o, L.getD j false = true → ops[j]? = some o → ∀ e ∈ o.after, binds e = true → L.getD e.on false = true) : L.getD j false = true := by
  have h1 := (List.all_eq_true.1 hcov) i (by simpa using hi)
  simp only [Bool.or_eq_true, decide_eq_true_eq] at h1
  rcases h1 with h1 | h1
  · omega
  · have h2 := (List.all_eq_true.1 h1) j (by simpa using hj)
    simp only [Flow.waits, Array.getElem?_eq_getElem hi, Option.map_some, Option.getD_some, Array.any_eq_true', Bool.and_eq_true, Bool.or_eq_true, beq_iff_eq] at h2
    obtain ⟨e, he, hb, h⟩ := h2
    have h3 := hpre e he hb
    rcases h with h | h
    · rw [← h]; exact h3
    · exact Flow.waits_closed hcl 23 _ _ h3 h

theorem stepIn_tail (hF : Plain F) (hnd : noDefer ops = true) (hs : shape ops a0.tmps.size = true) {m : Nat} (hm : m ≤ ops.size) (hcov : coverW ops m = true) {Ts : List Kd} {al : List Nat} (hlow : ∀ i ∈ al, i < m)
    (hal : ∀ i ∈ al, ∀ o, ops[i]? = some o → ∃ te z, o.guard = none ∧ o.op = .alloc te ∧ (∀ W, (zeroValue te).run P W = .ok (.agg z) W) ∧ Ts[i]? = some (newK te z))
    (hg : ∀ i o, i < m → ops[i]? = some o → ∃ T, Ts[i]? = some T ∧ Good P ops (onlyN Q) a0 w0 (Ts.take i) i o T)
    (hend : ∀ (fuel : Nat) (L : Array Bool) (a : Act) (w : World), FinalM ops m al a0 w0 Ts a w → L.size = ops.size → (∀ j, L.getD j false = decide (j < m)) → ((List.range ops.size).filter fun i => !L.getD i true).length ≤ fuel → wpAnyIn F n P .any ops Q fuel L a w) :
    ∀ (fuel : Nat) (L : Array Bool) (a : Act) (w : World), J ops a0 w0 Ts L a w → (∀ j, m ≤ j → L.getD j false = false) → Fr ops al w0 L a w → ((List.range ops.size).filter fun i => !L.getD i true).length ≤ fuel → wpAnyIn F n P .any ops Q fuel L a w := by
  intro fuel
  induction fuel with
  | zero =>
    intro L a w hJ hFm hFr hf
    by_cases hall : ∀ j, j < m → L.getD j false = true
    · exact hend 0 L a w ⟨hJ.defers, hJ.tmps, hJ.ext, fun t ht => hJ.old t (fun j hj => hFm j (ht j hj)), fun t j hj hjm => hJ.new j (hall j hjm) t hj, fun i hi t ht => by
        obtain ⟨b, h1, h2, h3⟩ := hFr i hi (hall i (hlow i hi)) t ht
        exact ⟨b, h1, h2, fun j hj hji => h3 j hj hji (hall j (hlow j hj))⟩⟩ hJ.size (fun j => by
        rcases Nat.lt_or_ge j m with h | h
        · rw [hall j h]; simp [h]
        · rw [hFm j h]; simp; exact h) hf
    · exfalso
      obtain ⟨j, h1, h2, h3⟩ := least hall
      have := mem_count hJ.size (show j < ops.size by omega) h2
      rw [List.eq_nil_of_length_eq_zero (Nat.le_zero.1 hf)] at this
      cases this
  | succ fuel ih =>
    intro L a w hJ hFm hFr hf
    by_cases hall : ∀ j, j < m → L.getD j false = true
    · exact hend _ L a w ⟨hJ.defers, hJ.tmps, hJ.ext, fun t ht => hJ.old t (fun j hj => hFm j (ht j hj)), fun t j hj hjm => hJ.new j (hall j hjm) t hj, fun i hi t ht => by
        obtain ⟨b, h1, h2, h3⟩ := hFr i hi (hall i (hlow i hi)) t ht
        exact ⟨b, h1, h2, fun j hj hji => h3 j hj hji (hall j (hlow j hj))⟩⟩ hJ.size (fun j => by
        rcases Nat.lt_or_ge j m with h | h
        · rw [hall j h]; simp [h]
        · rw [hFm j h]; simp; exact h) hf
    refine ⟨fun hr => ?_, fun i hi => ?_⟩
    · exfalso
      obtain ⟨j, h1, h2, h3⟩ := least hall
      have := not_ready_nil hs hJ.size j (by omega) h2 h3
      rw [hr] at this; cases this
    unfold Region.ready at hi
    rw [List.mem_filter] at hi
    obtain ⟨hir, hib⟩ := hi
    have hi' : i < ops.size := by simpa using hir
    have hiL : i < L.size := by rw [hJ.size]; exact hi'
    rw [Array.getElem?_eq_getElem hi'] at hib
    simp only [Option.map_some, Option.getD_some, Bool.and_eq_true, Bool.not_eq_true'] at hib
    obtain ⟨hiF, hedges⟩ := hib
    have hiF' : L.getD i false = false := by simp [hiL] at hiF ⊢; exact hiF
    have hpre : ∀ e ∈ (ops[i]'hi').after, binds e = true → L.getD e.on false = true := by
      intro e he hb
      have := (Array.all_eq_true'.1 hedges) e he
      simp only [binds] at hb
      simpa [hb] using this
    have him : i < m := by
      rcases Nat.lt_or_ge i m with h | h
      · exact h
      · exfalso
        exact hall fun j hj => coveredW hcov h hi' (by omega) (fun e he hb => hpre e he hb) hJ.closed
    obtain ⟨T, hT, hst, hgood⟩ := hg i _ him (Array.getElem?_eq_getElem hi')
    have hsi := (List.all_eq_true.1 hs) i (by simpa using hi')
    rw [Array.getElem?_eq_getElem hi'] at hsi
    simp only [Option.map_some, Option.getD_some, Bool.and_eq_true] at hsi
    obtain ⟨⟨hlook, hdst⟩, hback⟩ := hsi
    have hstep := hgood a w hJ.ext hJ.defers (by
      intro t ht
      have hl1 := (List.all_eq_true.1 hlook) t ht
      unfold Sees
      cases hw : writer ops t with
      | none => exact hJ.old t (fun j hj => by rw [hw] at hj; cases hj)
      | some j =>
        simp only [hw, Bool.or_eq_true, Bool.and_eq_true, decide_eq_true_eq, beq_iff_eq] at hl1
        simp only []
        split
        · rename_i hji
          rcases hl1 with (⟨_, hb⟩ | ⟨h1, _⟩) | h1
          · simp only [behind, Array.getElem?_eq_getElem hi', Option.map_some, Option.getD_some, Array.any_eq_true', Bool.and_eq_true, beq_iff_eq] at hb
            obtain ⟨e, he, hbe, hon⟩ := hb
            have hLj := hpre e he hbe
            rw [hon] at hLj
            obtain ⟨v, T', h1, h2, h3⟩ := hJ.new j hLj t hw
            refine ⟨v, T', ?_, h2, h3⟩
            rw [List.getElem?_take, if_pos hji]; exact h1
          · omega
          · omega
        · rename_i hji
          refine hJ.old t (fun j' hj' => ?_)
          rw [hw] at hj'; cases hj'
          rcases hl1 with (⟨h1, _⟩ | ⟨_, hb⟩) | h1
          · omega
          · cases hLj : L.getD j false with
            | false => rfl
            | true =>
              exfalso
              have hj := (writer_some hw).1
              simp only [behind, Array.getElem?_eq_getElem hj, Option.map_some, Option.getD_some, Array.any_eq_true', Bool.and_eq_true, beq_iff_eq] at hb
              obtain ⟨e, he, hbe, hon⟩ := hb
              have := hJ.closed j _ hLj (Array.getElem?_eq_getElem hj) e he hbe
              rw [hon, hiF'] at this; cases this
          · rw [h1]; exact hiF')
    have hcount : ((List.range ops.size).filter fun k => !(L.setIfInBounds i true).getD k true).length ≤ fuel := by
      have hlt : ((List.range ops.size).filter fun k => !(L.setIfInBounds i true).getD k true).length < ((List.range ops.size).filter fun k => !L.getD k true).length := by
        have hsub : ((List.range ops.size).filter fun k => !(L.setIfInBounds i true).getD k true) = ((List.range ops.size).filter fun k => !L.getD k true).filter (· != i) := by
          rw [List.filter_filter]
          apply List.filter_congr
          intro k hk
          have hk' : k < ops.size := by simpa using hk
          have hkL : k < L.size := by rw [hJ.size]; exact hk'
          by_cases h : k = i
          · subst h; simp [hkL]
          · simp [h, Array.getElem?_setIfInBounds_ne (Ne.symm h)]
        rw [hsub]
        have hm : i ∈ ((List.range ops.size).filter fun k => !L.getD k true) := by
          rw [List.mem_filter]; exact ⟨hir, by simp [hiF]⟩
        exact List.length_filter_lt_length_iff_exists.2 ⟨i, hm, by simp⟩
      omega
    have hJ' : ∀ v w', Ext w w' → T v w' → J ops a0 w0 Ts (L.setIfInBounds i true) (a.put (ops[i]'hi').dst v) w' := by
      intro v w' hE hTv
      refine ⟨by simpa using hJ.size, ?_, ?_, ?_, hJ.ext.trans hE, ?_, ?_⟩
      · intro j o hj ho e he hb
        rw [getD_set _ _ _ hiL] at hj ⊢
        split
        · rfl
        · split at hj
          · rename_i _ hji
            subst hji
            rw [Array.getElem?_eq_getElem hi'] at ho; cases ho
            exact hpre e he hb
          · exact hJ.closed j o hj ho e he hb
      · cases hd : (ops[i]'hi').dst <;> simpa [Act.put, hd] using hJ.defers
      · cases hd : (ops[i]'hi').dst <;> simpa [Act.put, hd] using hJ.tmps
      · intro t ht
        have hti : (ops[i]'hi').dst ≠ some t := by
          intro hd
          rw [hd] at hdst
          simp only [Bool.and_eq_true, beq_iff_eq] at hdst
          have := ht i hdst.2
          rw [getD_set _ _ _ hiL, if_pos rfl] at this; cases this
        have h1 : (a.put (ops[i]'hi').dst v).tmps[t]? = a.tmps[t]? := by
          cases hd : (ops[i]'hi').dst with
          | none => rfl
          | some d => simp only [Act.put]; exact Array.getElem?_setIfInBounds_ne (fun e => hti (by rw [hd, e]))
        rw [h1]
        refine hJ.old t (fun j hj => ?_)
        have := ht j hj
        rw [getD_set _ _ _ hiL] at this
        split at this
        · cases this
        · exact this
      · intro j hj t ht
        rw [getD_set _ _ _ hiL] at hj
        by_cases hji : j = i
        · subst hji
          have hd := (writer_some ht).2
          rw [Array.getElem?_eq_getElem hi'] at hd
          simp only [Option.bind_some] at hd
          refine ⟨v, T, hT, ?_, hTv⟩
          rw [hd] at hdst ⊢
          simp only [Bool.and_eq_true, decide_eq_true_eq] at hdst
          have : t < a.tmps.size := by rw [hJ.tmps]; exact hdst.1
          simp [Act.put, this]
        · rw [if_neg hji] at hj
          obtain ⟨v', T', h1, h2, h3⟩ := hJ.new j hj t ht
          have hst' : Stable T' := by
            have hjs := (writer_some ht).1
            have hjm : j < m := by
              rcases Nat.lt_or_ge j m with h | h
              · exact h
              · rw [hFm j h] at hj; cases hj
            obtain ⟨T'', h4, h5, _⟩ := hg j _ hjm (Array.getElem?_eq_getElem hjs)
            rw [h1] at h4; cases h4; exact h5
          refine ⟨v', T', h1, ?_, hst' _ _ _ h3 hE⟩
          cases hd : (ops[i]'hi').dst with
          | none => exact h2
          | some d =>
            simp only [Act.put]
            rw [Array.getElem?_setIfInBounds_ne]
            · exact h2
            · intro e
              subst e
              rw [hd] at hdst
              simp only [Bool.and_eq_true, beq_iff_eq] at hdst
              rw [hdst.2] at ht; cases ht; exact hji rfl
    have hFm' : ∀ j, m ≤ j → (L.setIfInBounds i true).getD j false = false := fun j hj => by
      rw [getD_set _ _ _ hiL, if_neg (by omega)]; exact hFm j hj
    unfold wpOpIn
    rw [Array.getElem?_eq_getElem hi']
    simp only []
    by_cases hial : i ∈ al
    · obtain ⟨te, z, hgd, hop, hz, hTz⟩ := hal i hial _ (Array.getElem?_eq_getElem hi')
      rw [hT] at hTz; cases hTz
      have hw : Region.wanted (ops[i]'hi') (yielded ops a.tmps) = true := by simp [Region.wanted, hgd]
      rw [if_pos hw]
      have hrun : (execOp a.eval (ops[i]'hi')).run P w = .ok (.value (ptr w.heap.size)) (w.alloc (.cells z te)) := by
        simp [execOp, hop, hz, go_sem]
      unfold Oper.wpIn
      rw [Oper.semAt_plain F _ _ (noDefer_get hnd (Array.getElem?_eq_getElem hi')), hrun]
      refine ⟨fun f _ => hF.fn f, ?_⟩
      refine ih _ _ _ (hJ' _ _ ((Ext.refl w).alloc _) ⟨_, rfl, Blk.new _ _ _⟩) hFm' ?_ hcount
      have hput : ∀ t, writer ops t = some i → (a.put (ops[i]'hi').dst (ptr w.heap.size)).tmps[t]? = some (ptr w.heap.size) := fun t ht => by
        have hd := (writer_some ht).2
        rw [Array.getElem?_eq_getElem hi'] at hd
        simp only [Option.bind_some] at hd
        rw [hd] at hdst ⊢
        simp only [Bool.and_eq_true, decide_eq_true_eq] at hdst
        have : t < a.tmps.size := by rw [hJ.tmps]; exact hdst.1
        simp [Act.put, this]
      intro k hk hLk t ht
      rw [getD_set _ _ _ hiL] at hLk
      by_cases hki : k = i
      · subst hki
        refine ⟨w.heap.size, hput t ht, ⟨hJ.ext.size, by simp⟩, fun j hj hji hLj t' ht' => ?_⟩
        rw [getD_set _ _ _ hiL, if_neg hji] at hLj
        rw [put_other (a0 := a0) a _ hi' hdst ht' hji]
        obtain ⟨b, h1, h2, _⟩ := hFr j hj hLj t' ht'
        rw [h1]
        intro e
        simp only [Option.some.injEq, Value.pointer.injEq, Addr.mk.injEq, and_true] at e
        omega
      · rw [if_neg hki] at hLk
        obtain ⟨b, h1, h2, h3⟩ := hFr k hk hLk t ht
        refine ⟨b, by rw [put_other (a0 := a0) a _ hi' hdst ht hki]; exact h1, ⟨h2.1, by simp; omega⟩, fun j hj hji hLj t' ht' => ?_⟩
        rw [getD_set _ _ _ hiL] at hLj
        by_cases hj' : j = i
        · subst hj'
          rw [hput t' ht']
          intro e
          simp only [Option.some.injEq, Value.pointer.injEq, Addr.mk.injEq, and_true] at e
          omega
        · rw [if_neg hj'] at hLj
          rw [put_other (a0 := a0) a _ hi' hdst ht' hj']
          exact h3 j hj hji hLj t' ht'
    have hFr' : ∀ v w', Ext w w' → Fr ops al w0 (L.setIfInBounds i true) (a.put (ops[i]'hi').dst v) w' := by
      intro v w' hE k hk hLk t ht
      have hki : k ≠ i := fun e => hial (e ▸ hk)
      rw [getD_set _ _ _ hiL, if_neg hki] at hLk
      obtain ⟨b, h1, h2, h3⟩ := hFr k hk hLk t ht
      refine ⟨b, by rw [put_other (a0 := a0) a _ hi' hdst ht hki]; exact h1, ⟨h2.1, Nat.lt_of_lt_of_le h2.2 hE.size⟩, fun j hj hji hLj t' ht' => ?_⟩
      have hj' : j ≠ i := fun e => hial (e ▸ hj)
      rw [getD_set _ _ _ hiL, if_neg hj'] at hLj
      rw [put_other (a0 := a0) a _ hi' hdst ht' hj']
      exact h3 j hj hji hLj t' ht'
    rcases hstep with ⟨hw, hwp⟩ | ⟨hw, hTu⟩
    · rw [if_pos hw]
      refine Oper.wp_in hF (noDefer_get hnd (Array.getElem?_eq_getElem hi')) ?_ hwp
      rintro a' w' ⟨v, rfl, hE, hTv⟩
      exact ih _ _ _ (hJ' v w' hE hTv) hFm' (hFr' v w' hE) hcount
    · rw [if_neg (by rw [hw]; simp)]
      refine ⟨fun f _ => hF.fn f, ?_⟩
      exact ih _ _ _ (hJ' undef w (Ext.refl _) hTu) hFm' (hFr' undef w (Ext.refl _)) hcount

theorem stepIn_seq (hs : shape ops a0.tmps.size = true) {m : Nat} (hcov : coverW ops m = true) :
    ∀ (fuel k : Nat) (L : Array Bool) (a : Act) (w : World), m ≤ k → k ≤ ops.size → L.size = ops.size → (∀ j, L.getD j false = decide (j < k)) → wpListIn F n P ops Q (ops.toList.drop k) a w →
      ((List.range ops.size).filter fun i => !L.getD i true).length ≤ fuel → wpAnyIn F n P .any ops Q fuel L a w := by
  intro fuel
  induction fuel with
  | zero =>
    intro k L a w hk1 hk2 hL hd hw hf
    have hk : k = ops.size := by
      rcases Nat.lt_or_ge k ops.size with h | h
      · exfalso
        have := mem_count hL h (by rw [hd]; simp)
        rw [List.eq_nil_of_length_eq_zero (Nat.le_zero.1 hf)] at this
        cases this
      · omega
    subst hk
    rw [List.drop_eq_nil_of_le (by simp)] at hw
    refine ⟨?_, hw⟩
    unfold Region.ready
    apply List.eq_nil_iff_forall_not_mem.2
    intro i hi
    rw [List.mem_filter] at hi
    have hi1 : i < ops.size := by simpa using hi.1
    have hiL : i < L.size := by rw [hL]; exact hi1
    have := hd i
    simp [hiL, hi1] at this hi
    rw [this] at hi; simp at hi
  | succ fuel ih =>
    intro k L a w hk1 hk2 hL hd hw hf
    refine ⟨fun hr => ?_, fun i hi => ?_⟩
    · rcases Nat.lt_or_ge k ops.size with h | h
      · exfalso
        have := not_ready_nil hs hL k h (by rw [hd]; simp) (fun j hj => by rw [hd]; simp [hj])
        rw [hr] at this; cases this
      · obtain rfl : k = ops.size := by omega
        rw [List.drop_eq_nil_of_le (by simp)] at hw
        exact hw
    · unfold Region.ready at hi
      rw [List.mem_filter] at hi
      obtain ⟨hir, hib⟩ := hi
      have hi' : i < ops.size := by simpa using hir
      have hiL : i < L.size := by rw [hL]; exact hi'
      rw [Array.getElem?_eq_getElem hi'] at hib
      simp only [Option.map_some, Option.getD_some, Bool.and_eq_true, Bool.not_eq_true'] at hib
      obtain ⟨hiF, hedges⟩ := hib
      have hiF' : L.getD i false = false := by simp [hiL] at hiF ⊢; exact hiF
      have hpre : ∀ e ∈ (ops[i]'hi').after, binds e = true → L.getD e.on false = true := by
        intro e he hb
        have := (Array.all_eq_true'.1 hedges) e he
        simp only [binds] at hb
        simpa [hb] using this
      have hik : k ≤ i := by
        have := hd i
        rw [hiF'] at this
        simpa using this.symm
      obtain rfl : i = k := by
        rcases Nat.lt_or_ge k i with h | h
        · exfalso
          have hc : L.getD k false = true := coveredW hcov (by omega) hi' h hpre (fun j o hj ho e he hb => by
            have hj' : j < k := by rw [hd] at hj; simpa using hj
            have hjs : j < ops.size := by omega
            rw [Array.getElem?_eq_getElem hjs] at ho; cases ho
            have hsj := (List.all_eq_true.1 hs) j (by simpa using hjs)
            rw [Array.getElem?_eq_getElem hjs] at hsj
            simp only [Option.map_some, Option.getD_some, Bool.and_eq_true] at hsj
            have h2 := (Array.all_eq_true'.1 hsj.2) e he
            simp only [hb, Bool.not_true, Bool.false_or, decide_eq_true_eq] at h2
            rw [hd]; simp; omega)
          rw [hd] at hc; simp at hc
        · omega
      have hlist : ops.toList.drop i = (ops[i]'hi') :: ops.toList.drop (i + 1) := by
        rw [List.drop_eq_getElem_cons (by simpa using hi')]; simp
      rw [hlist] at hw
      have hd' : ∀ j, (L.setIfInBounds i true).getD j false = decide (j < i + 1) := fun j => by
        rw [getD_set _ _ _ hiL, hd]
        by_cases h : j = i
        · simp [h]
        · simp only [if_neg h]; congr 1; apply propext; omega
      have hcount : ((List.range ops.size).filter fun k => !(L.setIfInBounds i true).getD k true).length ≤ fuel := by
        have hlt : ((List.range ops.size).filter fun k => !(L.setIfInBounds i true).getD k true).length < ((List.range ops.size).filter fun k => !L.getD k true).length := by
          have hsub : ((List.range ops.size).filter fun k => !(L.setIfInBounds i true).getD k true) = ((List.range ops.size).filter fun k => !L.getD k true).filter (· != i) := by
            rw [List.filter_filter]
            apply List.filter_congr
            intro k hk
            have hk' : k < ops.size := by simpa using hk
            have hkL : k < L.size := by rw [hL]; exact hk'
            by_cases h : k = i
            · subst h; simp [hkL]
            · simp [h, Array.getElem?_setIfInBounds_ne (Ne.symm h)]
          rw [hsub]
          exact List.length_filter_lt_length_iff_exists.2 ⟨i, mem_count hL hi' hiF', by simp⟩
        omega
      unfold wpOpIn
      rw [Array.getElem?_eq_getElem hi']
      simp only []
      unfold wpListIn at hw
      have hnext : ∀ a w, wpListIn F n P ops Q (ops.toList.drop (i + 1)) a w → wpAnyIn F n P .any ops Q fuel (L.setIfInBounds i true) a w :=
        fun a w h => ih (i + 1) _ a w (by omega) (by omega) (by simpa using hL) hd' h hcount
      split at hw
      · rename_i hwant
        rw [if_pos hwant]
        exact Oper.wpIn_mono (fun a w h => hnext a w h) hw
      · rename_i hwant
        rw [if_neg hwant]
        exact ⟨hw.1, hnext _ _ hw.2⟩

theorem wpIn_region_tail {id : Nat} (hF : Plain F) (hnd : noDefer ops = true) (m : Nat) (al : List Nat) (hlow : al.all (fun i => decide (i < m)) = true) (hmo : P.follows .mixedOrders = true) (hs : shape ops a0.tmps.size = true) (hcov : coverW ops m = true) (hm : decide (m ≤ ops.size) = true)
    (h : PassR P ops (onlyN Q) a0 w0.drew (fun Ts => (∀ i ∈ al, ∀ o, ops[i]? = some o → ∃ te z, o.guard = none ∧ o.op = .alloc te ∧ (∀ W, (zeroValue te).run P W = .ok (.agg z) W) ∧ Ts[i]? = some (newK te z)) ∧ ∀ a w, FinalM ops m al a0 w0.drew Ts a w → wpListIn F n P ops Q (ops.toList.drop m) a w) (ops.toList.take m) []) : (Code.region id ops true).wpIn F n P Q a0 w0 := by
  have hm' : m ≤ ops.size := of_decide_eq_true hm
  obtain ⟨Ts, hend, hl, hg⟩ := pass_get _ _ (pass_of_R _ _ h)
  simp only [List.reverse_nil, List.nil_append, List.length_nil, Nat.zero_add] at hend hg
  refine wpIn_region_any hmo (stepIn_tail hF hnd hs hm' hcov (fun i hi => of_decide_eq_true (List.all_eq_true.1 hlow i hi)) hend.1 (fun i o him hi => hg i o (by rw [List.getElem?_take, if_pos him]; simpa using hi))
    (fun fuel L a w hFM hL hd hf => stepIn_seq hs hcov fuel m L a w (Nat.le_refl _) hm' hL hd (hend.2 a w hFM) hf) _ _ _ _ ⟨by simp, ?_, rfl, rfl, Ext.refl _, fun t _ => rfl, ?_⟩ ?_ ?_ (Nat.le_trans (List.length_filter_le _ _) (by simp)))
  · intro j o hj
    exfalso
    by_cases h : j < ops.size <;> simp [h] at hj
  · intro j hj
    exfalso
    by_cases h : j < ops.size <;> simp [h] at hj
  · intro j _
    by_cases h : j < ops.size <;> simp [h]
  · intro i _ hj
    exfalso
    by_cases h : i < ops.size <;> simp [h] at hj
end
end Reg
end Go.Proofs.YtpellkblaeeopaaGreatDoor
/-
  Walks: word.Hex, portreeveref01.Hex: both are the digits `digs`.
-/
namespace Go.Proofs.YtpellkblaeeopaaGreatDoor
open Go.RowKit

theorem addr_lit (g o k : Nat) : (⟨g, o, none⟩ : Addr).add k = ⟨g, o + k, none⟩ := by unfold Addr.add; split <;> simp_all
theorem Blk.rdAt {w : World} {g : Nat} {t : TypeId} {cs : Array Value} (h : Blk w g t cs) (size off n : Nat) (hn : off + n * size ≤ cs.size) :
    Rd w w.heap.size size (some ⟨g, off, none⟩) n ((cs.toList.drop off).take (n * size)) := by
  refine ⟨by rw [List.length_take, List.length_drop, Array.length_toList]; omega, fun k v hv => ⟨_, rfl, h.lt, ?_⟩⟩
  rw [addr_lit, h.cell]
  rw [List.getElem?_take] at hv
  split at hv
  · rw [List.getElem?_drop] at hv; simpa using hv
  · cases hv

def hexSigns : ByteArray := ⟨#[48, 49, 50, 51, 52, 53, 54, 55, 56, 57, 97, 98, 99, 100, 101, 102]⟩
def hexDig (d : Nat) : UInt8 := hexSigns.data[d]?.getD 0
theorem hexD (d : Nat) (h : d < hexSigns.size) : hexSigns[d]'h = hexDig d := by
  have h' : d < hexSigns.data.size := h
  unfold hexDig
  rw [Array.getElem?_eq_getElem h']; rfl
theorem hexD' (d : Nat) (h : d < 16) : (⟨#[48, 49, 50, 51, 52, 53, 54, 55, 56, 57, 97, 98, 99, 100, 101, 102]⟩ : ByteArray)[d]'h = hexDig d := hexD d h

/-- the j lowest digits to the base 16 -/
def digs (x : Nat) : Nat → List UInt8
  | 0 => []
  | j + 1 => hexDig (x / 16 ^ j % 16) :: digs x j
theorem digs_length (x : Nat) : ∀ j, (digs x j).length = j
  | 0 => rfl
  | j + 1 => by simp [digs, digs_length x j]
/-- so many digits has a number -/
structure HexLen (x J : Nat) : Prop where
  one : 1 ≤ J
  done : x / 16 ^ J = 0
  more : ∀ i, 1 ≤ i → i < J → x / 16 ^ i ≠ 0
theorem HexLen.uniq {x J K : Nat} (h : HexLen x J) (k : HexLen x K) : J = K := by
  rcases Nat.lt_trichotomy J K with h1 | h1 | h1
  · exact absurd h.done (k.more J h.one h1)
  · exact h1
  · exact absurd k.done (h.more K k.one h1)
theorem div_pow_succ (x j : Nat) : x / 16 ^ (j + 1) = x / 16 ^ j / 16 := by rw [Nat.pow_succ, Nat.div_div_eq_div_mul]

set_option maxRecDepth 100000 in
set_option maxHeartbeats 400000 in
theorem hex_any (x : Nat) (hx : x < 18446744073709551616) (w : World) :
    Calls Tryz.prog 80 #[.int .u64 (x : Nat)] w fun e w' => (∃ J, HexLen x J ∧ e = .returned (.string ⟨(digs x J).toArray⟩)) ∧ Below w.heap.size w w' := by
  go_enter Tryz.func80, Tryz.ntmps80
  go_wp2
  go_loopw [0, 4] (fun n i wr => ∃ j q : Nat, j + q = 16 ∧ 1 ≤ q ∧ i = .int .i64 q ∧ (∀ i, 1 ≤ i → i < j + 1 → x / 16 ^ i ≠ 0) ∧ ∃ m : Nat, Hid (m = x / 16 ^ j) ∧ m < 18446744073709551616 ∧ n = .int .u64 (m : Nat) ∧
    ∃ X : List Value, Hid (X.length = q) ∧ Blk wr w.heap.size 209 (X ++ bcells (digs x j)).toArray ∧ Below w.heap.size w wr) (fun n _ _ => (intOf n).toNat)
  case atStart =>
    exact ⟨0, 16, rfl, by omega, rfl, fun i h1 h2 => by omega, x, Lib.hid (by simp), hx, rfl, List.replicate 16 (.int .u8 0), Lib.hid rfl, Blk.new _ _ _, (Below.refl _ _).alloc (Nat.le_refl _) _⟩
  case round =>
    obtain ⟨j, q, hjq, hq1, rfl, hmore, m, Hm, hm, rfl, X, HX, hb, hB⟩ := hrel
    have hand : bits BinOp.and IntKind.u64 (m : Int) 15 = ((m % 16 : Nat) : Int) := by
      have := u64_and_nat m 15 (by omega) (by omega)
      rw [nat_mask4] at this; exact this
    have hlt : m % 16 < 16 := by omega
    have hD : (⟨#[48, 49, 50, 51, 52, 53, 54, 55, 56, 57, 97, 98, 99, 100, 101, 102]⟩ : ByteArray)[m % 16]'hlt = hexDig (m % 16) := hexD' _ _
    have hsz : (X ++ bcells (digs x j)).toArray.size = 16 := by simp [HX.out, bcells_length, digs_length]; omega
    obtain ⟨v0, hc⟩ : ∃ v0, wr.cell? ⟨w.heap.size, q - 1, none⟩ = some v0 := ⟨_, by rw [hb.cell]; exact Array.getElem?_eq_getElem (by omega)⟩
    have hf : wr.frozen? ⟨w.heap.size, q - 1, none⟩ = false := hb.frozen _
    have hset : ((X ++ bcells (digs x j)).toArray.setIfInBounds (q - 1) (.int .u8 (hexDig (m % 16)).toNat)) = (X.take (q - 1) ++ bcells (digs x (j + 1))).toArray := by
      have e1 : X.length = q := HX.out
      have e2 : m = x / 16 ^ j := Hm.out
      have e3 : X = X.take (q - 1) ++ [X[q - 1]'(by omega)] := by
        have := List.take_succ_eq_append_getElem (l := X) (i := q - 1) (by omega)
        rw [← this]; exact (List.take_of_length_le (by omega)).symm
      have e4 : (X.take (q - 1)).length = q - 1 := by rw [List.length_take]; omega
      conv => lhs; rw [e3]
      apply Array.toList_inj.1
      simp only [List.setIfInBounds_toArray, List.append_assoc, List.set_append, e4]
      simp [bcells, digs, ← e2]
    have hb' := hb.set_ (q - 1) (.int .u8 (hexDig (m % 16)).toNat)
    rw [hset] at hb'
    have HB' := Lib.hid hb'
    have HF := Lib.hid hjq
    have hq16 : q ≤ 16 := by omega
    clear hset hsz hb' hb hjq
    by_cases h0 : m / 16 = 0
    · have hz : ((m : Int) / 16 == 0) = true := by simp; omega
      have hlen : HexLen x (j + 1) := ⟨by omega, by rw [div_pow_succ, ← Hm.out]; exact h0, hmore⟩
      have hsl : ∀ W, (Instr.sliceAt 209 (.pointer (some ⟨w.heap.size, 0, none⟩)) (some (.int .i64 ((q : Int) - 1))) none none).run Tryz.prog W = .ok (.slice (some ⟨w.heap.size, q - 1, none⟩) (17 - q) (17 - q)) W := by
        intro W
        have := run_sliceAt_lo (P := Tryz.prog) W Tryz.underlying209 (show (Tryz.prog.info? 5).map (·.size) = some 1 by kernel_rfl) ⟨w.heap.size, 0, none⟩ .i64 (q - 1) (by omega)
        rw [if_neg (by omega), addr_lit] at this
        have e : ((q - 1 : Nat) : Int) = (q : Int) - 1 := by omega
        rw [e] at this
        rw [this]
        congr 2 <;> first | omega | (congr 2; omega)
      have hrd : ∀ W, W = (wr.setCell ⟨w.heap.size, q - 1, none⟩ (.int .u8 (hexDig (m % 16)).toNat)) → Rd W W.heap.size 1 (some ⟨w.heap.size, q - 1, none⟩) (17 - q) (bcells (digs x (j + 1))) := by
        rintro W rfl
        have e1 : X.length = q := HX.out
        have e4 : (X.take (q - 1)).length = q - 1 := by rw [List.length_take]; omega
        have e5 := HF.out
        have := HB'.out.rdAt 1 (q - 1) (17 - q) (by simp [bcells_length, digs_length]; omega)
        have e6 : ((X.take (q - 1) ++ bcells (digs x (j + 1))).toArray.toList.drop (q - 1)).take ((17 - q) * 1) = bcells (digs x (j + 1)) := by
          rw [List.drop_left' e4, List.take_of_length_le (by simp [bcells_length, digs_length]; omega)]
        rw [e6] at this; exact this
      by_cases h16 : q = 1
      · subst h16
        have hsl' : ∀ W, (Instr.sliceAt 209 (.pointer (some ⟨w.heap.size, 0, none⟩)) (some (.int .i64 0)) none none).run Tryz.prog W = .ok (.slice (some ⟨w.heap.size, 0, none⟩) 16 16) W := hsl
        have hrd' : ∀ W, W = (wr.setCell ⟨w.heap.size, 0, none⟩ (.int .u8 (hexDig (m % 16)).toNat)) → Rd W W.heap.size 1 (some ⟨w.heap.size, 0, none⟩) 16 (bcells (digs x (j + 1))) := hrd
        have hc' : wr.cell? ⟨w.heap.size, 0, none⟩ = some v0 := hc
        have hf' : wr.frozen? ⟨w.heap.size, 0, none⟩ = false := hf
        clear hsl hrd hc hf
        go_wp2_with ((with_reducible refine at_conv ?_); refine wpList_str _ Tryz.underlying73 Tryz.underlying5 Tryz.underlying9 rfl _ rfl (some ⟨w.heap.size, 0, none⟩) 16 16 (digs x (j + 1)) rfl (hrd' _ rfl) ?_)
        go_ret
        exact ⟨⟨j + 1, hlen, rfl⟩, hB.setCell (Nat.le_refl _) _⟩
      · go_wp2_with ((with_reducible refine at_conv ?_); refine wpList_str _ Tryz.underlying73 Tryz.underlying5 Tryz.underlying9 rfl _ rfl (some ⟨w.heap.size, q - 1, none⟩) (17 - q) (17 - q) (digs x (j + 1)) rfl (hrd _ rfl) ?_)
        go_ret
        exact ⟨⟨j + 1, hlen, rfl⟩, hB.setCell (Nat.le_refl _) _⟩
    · have hz : ((m : Int) / 16 == 0) = false := by simp; omega
      have hq2 : 2 ≤ q := by
        rcases Nat.lt_or_ge q 2 with h | h
        · exfalso
          obtain rfl : j = 15 := by have := HF.out; omega
          have := Hm.out
          rw [this, ← div_pow_succ] at h0
          exact h0 (Nat.div_eq_of_lt hx)
        · exact h
      go_wp2
      go_roundw
      case rel =>
        refine ⟨j + 1, q - 1, by have := HF.out; omega, by omega, by go_num, ?_, m / 16, Lib.hid (by rw [div_pow_succ, ← Hm.out]), by omega, by go_num, X.take (q - 1), Lib.hid (by rw [List.length_take, HX.out]; omega), HB'.out, hB.setCell (Nat.le_refl _) _⟩
        intro i h1 h2
        rcases Nat.lt_or_ge i (j + 1) with h3 | h3
        · exact hmore i h1 h3
        · obtain rfl : i = j + 1 := by omega
          rw [div_pow_succ, ← Hm.out]; exact h0
      case measure => simp [intOf]; omega

attribute [local irreducible] Utf8.encode
end Go.Proofs.YtpellkblaeeopaaGreatDoor
