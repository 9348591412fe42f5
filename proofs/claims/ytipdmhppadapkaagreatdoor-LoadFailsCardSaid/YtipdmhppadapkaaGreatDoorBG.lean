/-
  Parts: Two LtB LtC LtD LtE.
-/
import Derived.Test.YtipdmhppadapkaaGreatDoorBA
import Derived.Test.YtipdmhppadapkaaGreatDoorBF
/-
  A law for 'l, r := x, y' of whole values: two loads, two new blocks, two stores, in any order that the edges allow.
-/
namespace Go.Proofs.YtipdmhppadapkaaGreatDoor
open Go.RowKit
namespace Reg
section
variable {P : Program} {ops : Array Oper} {Q : Exit → Act → World → Prop}
/-- any order, by one invariant over what is done -/
theorem wpAny_inv (Inv : Array Bool → Act → World → Prop) (hsz : ∀ L a w, Inv L a w → L.size = ops.size)
    (hstep : ∀ L a w i o, Inv L a w → i ∈ Region.ready .any ops L → ops[i]? = some o → Region.wanted o (yielded ops a.tmps) = true ∧ o.wp P a w (fun a' w' => Inv (L.setIfInBounds i true) a' w') Q)
    (hend : ∀ L a w, Inv L a w → Region.ready .any ops L = [] → Q .normal a w) :
    ∀ (fuel : Nat) (L : Array Bool) (a : Act) (w : World), Inv L a w → ((List.range ops.size).filter fun i => !L.getD i true).length ≤ fuel → wpAny P .any ops Q fuel L a w := by
  intro fuel
  induction fuel with
  | zero =>
    intro L a w hI hf
    have h0 : ((List.range ops.size).filter fun i => !L.getD i true) = [] := List.eq_nil_of_length_eq_zero (by omega)
    have hr : Region.ready .any ops L = [] := by
      unfold Region.ready
      apply List.eq_nil_iff_forall_not_mem.2
      intro i hi
      rw [List.mem_filter] at hi
      have : i ∈ ((List.range ops.size).filter fun i => !L.getD i true) := by
        rw [List.mem_filter]
        exact ⟨hi.1, (Bool.and_eq_true _ _ ▸ hi.2).1⟩
      rw [h0] at this; cases this
    exact ⟨hr, hend L a w hI hr⟩
  | succ fuel ih =>
    intro L a w hI hf
    refine ⟨hend L a w hI, fun i hi => ?_⟩
    have hi2 := hi
    unfold Region.ready at hi2
    rw [List.mem_filter] at hi2
    obtain ⟨hir, hib⟩ := hi2
    have hi' : i < ops.size := by simpa using hir
    have hiL : i < L.size := by rw [hsz L a w hI]; exact hi'
    rw [Array.getElem?_eq_getElem hi'] at hib
    simp only [Option.map_some, Option.getD_some, Bool.and_eq_true, Bool.not_eq_true'] at hib
    obtain ⟨hiF, _⟩ := hib
    have hiF' : L.getD i false = false := by simp [hiL] at hiF ⊢; exact hiF
    have hcount : ((List.range ops.size).filter fun k => !(L.setIfInBounds i true).getD k true).length ≤ fuel := by
      have hlt : ((List.range ops.size).filter fun k => !(L.setIfInBounds i true).getD k true).length < ((List.range ops.size).filter fun k => !L.getD k true).length := by
        have hsub : ((List.range ops.size).filter fun k => !(L.setIfInBounds i true).getD k true) = ((List.range ops.size).filter fun k => !L.getD k true).filter (· != i) := by
          rw [List.filter_filter]
          apply List.filter_congr
          intro k hk
          have hk' : k < ops.size := by simpa using hk
          have hkL : k < L.size := by rw [hsz L a w hI]; exact hk'
          by_cases h : k = i
          · subst h; simp [hkL]
          · simp [h, Array.getElem?_setIfInBounds_ne (Ne.symm h)]
        rw [hsub]
        exact List.length_filter_lt_length_iff_exists.2 ⟨i, mem_count (hsz L a w hI) hi' hiF', by simp⟩
      omega
    obtain ⟨hw, hwp⟩ := hstep L a w i _ hI hi (Array.getElem?_eq_getElem hi')
    unfold wpOp
    rw [Array.getElem?_eq_getElem hi']
    simp only []
    rw [if_pos hw]
    exact .inl (Oper.wp_mono (fun a' w' h => ih _ _ _ h hcount) hwp)

theorem get_put {a : Act} {t t' : Tmp} {v : Value} (h : t < a.tmps.size) : (a.put (some t) v).tmps[t']? = if t = t' then some v else a.tmps[t']? := by
  simp only [Act.put]
  by_cases e : t = t'
  · subst e; simp [h]
  · rw [Array.getElem?_setIfInBounds_ne e, if_neg e]
theorem put_size (a : Act) (t : Option Tmp) (v : Value) : (a.put t v).tmps.size = a.tmps.size := by cases t <;> simp [Act.put]
/-- the six operations -/
structure TwoOps (ops : Array Oper) (ty : TypeId) (s1 s2 d1 d2 u1 u2 N : Nat) : Prop where
  size : ops.size = 6
  o0 : ∃ o, ops[0]? = some o ∧ o.dst = some u1 ∧ o.op = .load ty (.tmp s1) ∧ o.guard = none
  o1 : ∃ o, ops[1]? = some o ∧ o.dst = some u2 ∧ o.op = .load ty (.tmp s2) ∧ o.guard = none
  o2 : ∃ o, ops[2]? = some o ∧ o.dst = some d1 ∧ o.op = .alloc ty ∧ o.guard = none
  o3 : ∃ o, ops[3]? = some o ∧ o.dst = some d2 ∧ o.op = .alloc ty ∧ o.guard = none
  o4 : ∃ o, ops[4]? = some o ∧ o.dst = none ∧ o.op = .store ty (.tmp d1) (.tmp u1) ∧ o.guard = none
  o5 : ∃ o, ops[5]? = some o ∧ o.dst = none ∧ o.op = .store ty (.tmp d2) (.tmp u2) ∧ o.guard = none
  e4 : behind ops 4 0 = true ∧ behind ops 4 2 = true
  e5 : behind ops 5 1 = true ∧ behind ops 5 3 = true
  back : ((List.range 6).all fun i => ((ops[i]?).map fun o => o.after.all fun e => !binds e || decide (e.on < i)).getD true) = true
  ne : ((d1 != d2 && d1 != u1 && d1 != u2 && d2 != u1 && d2 != u2 && u1 != u2) && (s1 != d1 && s1 != d2 && s1 != u1 && s1 != u2 && s2 != d1 && s2 != d2 && s2 != u1 && s2 != u2)) = true
  lt : (decide (d1 < N) && decide (d2 < N) && decide (u1 < N) && decide (u2 < N)) = true

structure Two (ty : TypeId) (d1 d2 u1 u2 : Nat) (A B z : Array Value) (a0 : Act) (w0 : World) (L : Array Bool) (a : Act) (w : World) : Prop where
  size : L.size = 6
  defers : a.defers = a0.defers
  tmps : a.tmps.size = a0.tmps.size
  ext : Ext w0 w
  other : ∀ t, t ≠ d1 → t ≠ d2 → t ≠ u1 → t ≠ u2 → a.tmps[t]? = a0.tmps[t]?
  c0 : L.getD 0 false = true → a.tmps[u1]? = some (.agg A)
  c1 : L.getD 1 false = true → a.tmps[u2]? = some (.agg B)
  c2 : L.getD 2 false = true → ∃ b, a.tmps[d1]? = some (ptr b) ∧ w0.heap.size ≤ b ∧ Blk w b ty (if L.getD 4 false then A else z)
  c3 : L.getD 3 false = true → ∃ b, a.tmps[d2]? = some (ptr b) ∧ w0.heap.size ≤ b ∧ Blk w b ty (if L.getD 5 false then B else z)
  ne : L.getD 2 false = true → L.getD 3 false = true → a.tmps[d1]? ≠ a.tmps[d2]?
  f4 : L.getD 4 false = true → L.getD 2 false = true
  f5 : L.getD 5 false = true → L.getD 3 false = true

theorem ready_behind {L : Array Bool} {i j : Nat} (hi : i ∈ Region.ready .any ops L) (h : behind ops i j = true) : L.getD j false = true := by
  unfold Region.ready at hi
  rw [List.mem_filter] at hi
  obtain ⟨hir, hib⟩ := hi
  have hi' : i < ops.size := by simpa using hir
  rw [Array.getElem?_eq_getElem hi'] at hib
  simp only [Option.map_some, Option.getD_some, Bool.and_eq_true, Bool.not_eq_true'] at hib
  obtain ⟨e, he, hb, rfl⟩ := behind_edge hi' h
  have := (Array.all_eq_true'.1 hib.2) e he
  simp only [binds] at hb
  simpa [hb] using this
theorem ready_not {L : Array Bool} {i : Nat} (hL : L.size = ops.size) (hi : i ∈ Region.ready .any ops L) : L.getD i false = false := by
  unfold Region.ready at hi
  rw [List.mem_filter] at hi
  obtain ⟨hir, hib⟩ := hi
  have hi' : i < ops.size := by simpa using hir
  rw [Array.getElem?_eq_getElem hi'] at hib
  simp only [Option.map_some, Option.getD_some, Bool.and_eq_true, Bool.not_eq_true'] at hib
  have hiL : i < L.size := by rw [hL]; exact hi'
  have := hib.1
  simp [hiL] at this ⊢; exact this
theorem _root_.Go.Proofs.YtipdmhppadapkaaGreatDoor.Ext.trans' {a b c : World} {g : Nat} (h : Ext a b) (hg : b.grownBy c (some g)) (hga : a.heap.size ≤ g) : Ext a c := Below.grown h hg h.size (fun k e => by cases e; exact hga)
theorem run_storeAll {o : Oper} {a : Act} (w : World) (ty : TypeId) (x y : Operand) (ho : o.op = .store ty x y) (g : Nat) (te : TypeId) (cur cells : Array Value) (hb : Blk w g te cur)
    (hx : a.eval x = .pointer (some ⟨g, 0, none⟩)) (hy : a.eval y = .agg cells) (hfit : cells.size = cur.size) (hi : (P.info? ty).map (·.size) = some cells.size) (h1 : ∀ v ∈ cells.toList, v.oneCell' = true) :
    ∃ w', (execOp a.eval o).run P w = .ok .skip w' ∧ Blk w' g te cells ∧ w.grownBy w' (some g) ∧ w'.heap.size = w.heap.size := by
  obtain ⟨h2, h3, h4⟩ := Blk.setCells cells.toList 0 w cur hb (by simp; omega)
  rw [splice_all _ _ (by simpa using hfit)] at h2
  refine ⟨_, ?_, h2, h3, h4⟩
  unfold execOp
  simp only [ho, hx, hy, Instr.storeAt, Instr.sureAddr, Sem.run_bind, Sem.run_pure, Result.andThen_ok, run_storeVar_mid w g 0 ty cells (hb.there 0 cells.size (by omega)) hi (by rw [Array.all_eq_true]; intro i hi; exact h1 _ (by simp))]

theorem two_step {ty : TypeId} {s1 s2 d1 d2 u1 u2 : Nat} {A B z : Array Value} {g1 g2 : Nat} {t1 t2 : TypeId} {td : TypeDesc} {a0 : Act} {w0 : World} (hT : TwoOps ops ty s1 s2 d1 d2 u1 u2 a0.tmps.size)
    (hz : ∀ W, (zeroValue ty).run P W = .ok (.agg z) W) (hu : P.underlying ty = some td) (hd : td.isRow = true) (hi : (P.info? ty).map (·.size) = some z.size) (hA : A.size = z.size) (hB : B.size = z.size)
    (oA : ∀ v ∈ A.toList, v.oneCell' = true) (oB : ∀ v ∈ B.toList, v.oneCell' = true) (h1 : a0.tmps[s1]? = some (ptr g1)) (h2 : a0.tmps[s2]? = some (ptr g2)) (b1 : Blk w0 g1 t1 A) (b2 : Blk w0 g2 t2 B)
    (L : Array Bool) (a : Act) (w : World) (i : Nat) (o : Oper) (hI : Two ty d1 d2 u1 u2 A B z a0 w0 L a w) (hr : i ∈ Region.ready .any ops L) (ho : ops[i]? = some o) :
    Region.wanted o (yielded ops a.tmps) = true ∧ o.wp P a w (fun a' w' => Two ty d1 d2 u1 u2 A B z a0 w0 (L.setIfInBounds i true) a' w') Q := by
  have hne := hT.ne
  have hlt := hT.lt
  simp only [Bool.and_eq_true, bne_iff_ne, ne_eq, decide_eq_true_eq] at hne hlt
  obtain ⟨⟨⟨⟨⟨⟨n1, n2⟩, n3⟩, n4⟩, n5⟩, n6⟩, ⟨⟨⟨⟨⟨⟨⟨m1, m2⟩, m3⟩, m4⟩, m5⟩, m6⟩, m7⟩, m8⟩⟩ := hne
  obtain ⟨⟨⟨l1, l2⟩, l3⟩, l4⟩ := hlt
  have hi6 : i < 6 := by
    have := (Array.getElem?_eq_some_iff.1 ho).1
    rw [hT.size] at this; exact this
  have hiL : i < L.size := by rw [hI.size]; exact hi6
  have hnot := ready_not (by rw [hI.size, hT.size]) hr
  have hts := hI.tmps
  have hc := hI.c0
  have hs1 : a.tmps[s1]? = some (ptr g1) := (hI.other s1 m1 m2 m3 m4).trans h1
  have hs2 : a.tmps[s2]? = some (ptr g2) := (hI.other s2 m5 m6 m7 m8).trans h2
  have gs : ∀ j, (L.setIfInBounds i true).getD j false = if j = i then true else L.getD j false := fun j => getD_set L i j hiL
  have wn : ∀ o : Oper, o.guard = none → Region.wanted o (yielded ops a.tmps) = true := fun o h => by simp [Region.wanted, h]
  obtain rfl | rfl | rfl | rfl | rfl | rfl : i = 0 ∨ i = 1 ∨ i = 2 ∨ i = 3 ∨ i = 4 ∨ i = 5 := by omega
  · obtain ⟨o', e, hdst, hop, hg⟩ := hT.o0
    rw [ho] at e; cases e
    refine ⟨wn _ hg, ?_⟩
    have hrun := reg_load (P := P) (a := a) ty s1 hop (by rw [hs1]; rfl) (b1.ext hI.ext) hu hd (by rw [hi, hA])
    unfold Oper.wp
    rw [hrun]
    simp only [Oper.upon]
    rw [hdst]
    have gp : ∀ t, (a.put (some u1) (.agg A)).tmps[t]? = if u1 = t then some (.agg A) else a.tmps[t]? := fun t => get_put (by rw [hts]; exact l3)
    refine ⟨by simpa using hI.size, hI.defers, by rw [put_size]; exact hts, hI.ext, fun t a1 a2 a3 a4 => by rw [gp, if_neg (Ne.symm a3)]; exact hI.other t a1 a2 a3 a4, ?_, ?_, ?_, ?_, ?_, ?_, ?_⟩
    · intro _; rw [gp, if_pos rfl]
    · intro h; rw [gs] at h; rw [gp, if_neg n6]; exact hI.c1 h
    · intro h; rw [gs] at h; rw [gp, if_neg (Ne.symm n2), gs]; exact hI.c2 h
    · intro h; rw [gs] at h; rw [gp, if_neg (Ne.symm n4), gs]; exact hI.c3 h
    · intro h h'; rw [gs] at h h'; rw [gp, gp, if_neg (Ne.symm n2), if_neg (Ne.symm n4)]; exact hI.ne h h'
    · intro h; rw [gs] at h ⊢; exact hI.f4 h
    · intro h; rw [gs] at h ⊢; exact hI.f5 h
  · obtain ⟨o', e, hdst, hop, hg⟩ := hT.o1
    rw [ho] at e; cases e
    refine ⟨wn _ hg, ?_⟩
    have hrun := reg_load (P := P) (a := a) ty s2 hop (by rw [hs2]; rfl) (b2.ext hI.ext) hu hd (by rw [hi, hB])
    unfold Oper.wp
    rw [hrun]
    simp only [Oper.upon]
    rw [hdst]
    have gp : ∀ t, (a.put (some u2) (.agg B)).tmps[t]? = if u2 = t then some (.agg B) else a.tmps[t]? := fun t => get_put (by rw [hts]; exact l4)
    refine ⟨by simpa using hI.size, hI.defers, by rw [put_size]; exact hts, hI.ext, fun t a1 a2 a3 a4 => by rw [gp, if_neg (Ne.symm a4)]; exact hI.other t a1 a2 a3 a4, ?_, ?_, ?_, ?_, ?_, ?_, ?_⟩
    · intro h; rw [gs] at h; rw [gp, if_neg (Ne.symm n6)]; exact hI.c0 h
    · intro _; rw [gp, if_pos rfl]
    · intro h; rw [gs] at h; rw [gp, if_neg (Ne.symm n3), gs]; exact hI.c2 h
    · intro h; rw [gs] at h; rw [gp, if_neg (Ne.symm n5), gs]; exact hI.c3 h
    · intro h h'; rw [gs] at h h'; rw [gp, gp, if_neg (Ne.symm n3), if_neg (Ne.symm n5)]; exact hI.ne h h'
    · intro h; rw [gs] at h ⊢; exact hI.f4 h
    · intro h; rw [gs] at h ⊢; exact hI.f5 h
  · obtain ⟨o', e, hdst, hop, hg⟩ := hT.o2
    rw [ho] at e; cases e
    refine ⟨wn _ hg, ?_⟩
    have hrun : (execOp a.eval o).run P w = .ok (.value (ptr w.heap.size)) (w.alloc (.cells z ty)) := by simp [execOp, hop, hz, go_sem]
    unfold Oper.wp
    rw [hrun]
    simp only [Oper.upon]
    rw [hdst]
    have gp : ∀ t, (a.put (some d1) (ptr w.heap.size)).tmps[t]? = if d1 = t then some (ptr w.heap.size) else a.tmps[t]? := fun t => get_put (by rw [hts]; exact l1)
    have n4' : L.getD 4 false = false := by
      cases h : L.getD 4 false with
      | false => rfl
      | true => rw [hI.f4 h] at hnot; cases hnot
    refine ⟨by simpa using hI.size, hI.defers, by rw [put_size]; exact hts, hI.ext.alloc _, fun t a1 a2 a3 a4 => by rw [gp, if_neg (Ne.symm a1)]; exact hI.other t a1 a2 a3 a4, ?_, ?_, ?_, ?_, ?_, ?_, ?_⟩
    · intro h; rw [gs] at h; rw [gp, if_neg n2]; exact hI.c0 h
    · intro h; rw [gs] at h; rw [gp, if_neg n3]; exact hI.c1 h
    · intro _; rw [gp, if_pos rfl, gs]; refine ⟨_, rfl, hI.ext.size, ?_⟩; simpa [n4'] using Blk.new w ty z
    · intro h; rw [gs] at h; rw [gp, if_neg n1, gs]
      obtain ⟨b, h1, h2, h3⟩ := hI.c3 h
      exact ⟨b, h1, h2, h3.alloc _⟩
    · intro _ h'; rw [gs] at h'; rw [gp, gp, if_pos rfl, if_neg n1]
      obtain ⟨b, h1, h2, h3⟩ := hI.c3 h'
      rw [h1]
      intro e
      have hlt := h3.lt
      simp only [Option.some.injEq, Value.pointer.injEq, Addr.mk.injEq, and_true] at e
      omega
    · intro h; rw [gs] at h ⊢; rw [if_pos rfl]
    · intro h; rw [gs] at h ⊢; exact hI.f5 h
  · obtain ⟨o', e, hdst, hop, hg⟩ := hT.o3
    rw [ho] at e; cases e
    refine ⟨wn _ hg, ?_⟩
    have hrun : (execOp a.eval o).run P w = .ok (.value (ptr w.heap.size)) (w.alloc (.cells z ty)) := by simp [execOp, hop, hz, go_sem]
    unfold Oper.wp
    rw [hrun]
    simp only [Oper.upon]
    rw [hdst]
    have gp : ∀ t, (a.put (some d2) (ptr w.heap.size)).tmps[t]? = if d2 = t then some (ptr w.heap.size) else a.tmps[t]? := fun t => get_put (by rw [hts]; exact l2)
    have n5' : L.getD 5 false = false := by
      cases h : L.getD 5 false with
      | false => rfl
      | true => rw [hI.f5 h] at hnot; cases hnot
    refine ⟨by simpa using hI.size, hI.defers, by rw [put_size]; exact hts, hI.ext.alloc _, fun t a1 a2 a3 a4 => by rw [gp, if_neg (Ne.symm a2)]; exact hI.other t a1 a2 a3 a4, ?_, ?_, ?_, ?_, ?_, ?_, ?_⟩
    · intro h; rw [gs] at h; rw [gp, if_neg n4]; exact hI.c0 h
    · intro h; rw [gs] at h; rw [gp, if_neg n5]; exact hI.c1 h
    · intro h; rw [gs] at h; rw [gp, if_neg (Ne.symm n1), gs]
      obtain ⟨b, h1, h2, h3⟩ := hI.c2 h
      exact ⟨b, h1, h2, h3.alloc _⟩
    · intro _; rw [gp, if_pos rfl, gs]; refine ⟨_, rfl, hI.ext.size, ?_⟩; simpa [n5'] using Blk.new w ty z
    · intro h _; rw [gs] at h; rw [gp, gp, if_pos rfl, if_neg (Ne.symm n1)]
      obtain ⟨b, h1, h2, h3⟩ := hI.c2 h
      rw [h1]
      intro e
      have hlt := h3.lt
      simp only [Option.some.injEq, Value.pointer.injEq, Addr.mk.injEq, and_true] at e
      omega
    · intro h; rw [gs] at h ⊢; exact hI.f4 h
    · intro h; rw [gs] at h ⊢; rw [if_pos rfl]
  · obtain ⟨o', e, hdst, hop, hg⟩ := hT.o4
    rw [ho] at e; cases e
    refine ⟨wn _ hg, ?_⟩
    have k0 := ready_behind hr hT.e4.1
    have k2 := ready_behind hr hT.e4.2
    obtain ⟨b, q1, q2, q3⟩ := hI.c2 k2
    rw [hnot] at q3
    obtain ⟨w', hrun, hb', hg', hs'⟩ := run_storeAll (P := P) (a := a) w ty (.tmp d1) (.tmp u1) hop b ty z A q3 (by simp [Act.eval, q1]) (by simp [Act.eval, hI.c0 k0]) hA (by rw [hi, hA]) oA
    unfold Oper.wp
    rw [hrun]
    simp only [Oper.upon]
    rw [hdst]
    have hext : Ext w0 w' := hI.ext.trans' hg' q2
    refine ⟨by simpa using hI.size, hI.defers, hts, hext, hI.other, ?_, ?_, ?_, ?_, ?_, ?_, ?_⟩
    · intro h; rw [gs] at h; exact hI.c0 h
    · intro h; rw [gs] at h; exact hI.c1 h
    · intro _; rw [gs, if_pos rfl]; exact ⟨b, q1, q2, hb'⟩
    · intro h; rw [gs] at h; rw [gs]
      obtain ⟨b', h1, h2, h3⟩ := hI.c3 h
      refine ⟨b', h1, h2, h3.grown hg' ?_⟩
      intro e
      cases e
      exact hI.ne k2 h (q1.trans h1.symm)
    · intro h h'; rw [gs] at h h'; exact hI.ne h h'
    · intro _; rw [gs]; exact k2
    · intro h; rw [gs] at h ⊢; exact hI.f5 h
  · obtain ⟨o', e, hdst, hop, hg⟩ := hT.o5
    rw [ho] at e; cases e
    refine ⟨wn _ hg, ?_⟩
    have k1 := ready_behind hr hT.e5.1
    have k3 := ready_behind hr hT.e5.2
    obtain ⟨b, q1, q2, q3⟩ := hI.c3 k3
    rw [hnot] at q3
    obtain ⟨w', hrun, hb', hg', hs'⟩ := run_storeAll (P := P) (a := a) w ty (.tmp d2) (.tmp u2) hop b ty z B q3 (by simp [Act.eval, q1]) (by simp [Act.eval, hI.c1 k1]) hB (by rw [hi, hB]) oB
    unfold Oper.wp
    rw [hrun]
    simp only [Oper.upon]
    rw [hdst]
    have hext : Ext w0 w' := hI.ext.trans' hg' q2
    refine ⟨by simpa using hI.size, hI.defers, hts, hext, hI.other, ?_, ?_, ?_, ?_, ?_, ?_, ?_⟩
    · intro h; rw [gs] at h; exact hI.c0 h
    · intro h; rw [gs] at h; exact hI.c1 h
    · intro h; rw [gs] at h; rw [gs]
      obtain ⟨b', h1, h2, h3⟩ := hI.c2 h
      refine ⟨b', h1, h2, h3.grown hg' ?_⟩
      intro e
      cases e
      exact hI.ne h k3 (h1.trans q1.symm)
    · intro _; rw [gs, if_pos rfl]; exact ⟨b, q1, q2, hb'⟩
    · intro h h'; rw [gs] at h h'; exact hI.ne h h'
    · intro h; rw [gs] at h ⊢; exact hI.f4 h
    · intro _; rw [gs]; exact k3

theorem wp_region_two {id : Nat} {ty : TypeId} {s1 s2 d1 d2 u1 u2 : Nat} {A B z : Array Value} {g1 g2 : Nat} {t1 t2 : TypeId} {td : TypeDesc} {a0 : Act} {w0 : World} (hmo : P.follows .mixedOrders = true) (hT : TwoOps ops ty s1 s2 d1 d2 u1 u2 a0.tmps.size)
    (hz : ∀ W, (zeroValue ty).run P W = .ok (.agg z) W) (hu : P.underlying ty = some td) (hd : td.isRow = true) (hi : (P.info? ty).map (·.size) = some z.size) (hA : A.size = z.size) (hB : B.size = z.size)
    (oA : ∀ v ∈ A.toList, v.oneCell' = true) (oB : ∀ v ∈ B.toList, v.oneCell' = true) (h1 : a0.tmps[s1]? = some (ptr g1)) (h2 : a0.tmps[s2]? = some (ptr g2)) (b1 : Blk w0 g1 t1 A) (b2 : Blk w0 g2 t2 B)
    (hQ : ∀ (b1 b2 : Nat) (w : World), w0.heap.size ≤ b1 → w0.heap.size ≤ b2 → b1 ≠ b2 → Blk w b1 ty A → Blk w b2 ty B → Ext w0.drew w →
      Q .normal ⟨(((a0.tmps.setIfInBounds u1 (.agg A)).setIfInBounds u2 (.agg B)).setIfInBounds d1 (ptr b1)).setIfInBounds d2 (ptr b2), a0.defers⟩ w) : (Code.region id ops true).wp P Q a0 w0 := by
  refine wp_region_any hmo (wpAny_inv (Two ty d1 d2 u1 u2 A B z a0 w0.drew) (fun L a w h => by rw [h.size, hT.size]) (fun L a w i o hI hr ho => two_step (g1 := g1) (g2 := g2) hT hz hu hd hi hA hB oA oB h1 h2 b1.drew b2.drew L a w i o hI hr ho) ?_ _ _ _ _ ?_ (Nat.le_trans (List.length_filter_le _ _) (by simp)))
  · intro L a w hI hr
    have hne := hT.ne
    have hlt := hT.lt
    simp only [Bool.and_eq_true, bne_iff_ne, ne_eq, decide_eq_true_eq] at hne hlt
    obtain ⟨⟨⟨⟨⟨⟨n1, n2⟩, n3⟩, n4⟩, n5⟩, n6⟩, _⟩ := hne
    obtain ⟨⟨⟨l1, l2⟩, l3⟩, l4⟩ := hlt
    have hall : ∀ j, j < 6 → L.getD j false = true := by
      intro j hj
      cases h : L.getD j false with
      | true => rfl
      | false =>
        exfalso
        obtain ⟨k, k1, k2, k3⟩ := least (L := L) (m := 6) (fun hh => by rw [hh j hj] at h; cases h)
        have : k ∈ Region.ready .any ops L := by
          unfold Region.ready
          rw [List.mem_filter]
          have hk : k < ops.size := by rw [hT.size]; exact k1
          have hkL : k < L.size := by rw [hI.size]; exact k1
          refine ⟨by simpa using hk, ?_⟩
          have h1 : L.getD k true = false := by
            simp [hkL] at k2 ⊢; exact k2
          rw [h1, Array.getElem?_eq_getElem hk]
          simp only [Bool.not_false, Option.map_some, Option.getD_some, Bool.true_and, Array.all_eq_true]
          intro q hq
          have hb := (List.all_eq_true.1 hT.back) k (by simpa using k1)
          rw [Array.getElem?_eq_getElem hk] at hb
          simp only [Option.map_some, Option.getD_some] at hb
          have he := (Array.all_eq_true.1 hb) q hq
          simp only [binds, Bool.or_eq_true, Bool.not_eq_true', decide_eq_true_eq] at he
          rcases he with he | he
          · simp [he]
          · rw [k3 _ he]; simp
        rw [hr] at this; cases this
    have c0 := hI.c0 (hall 0 (by omega))
    have c1 := hI.c1 (hall 1 (by omega))
    obtain ⟨x1, c2, g2', q2⟩ := hI.c2 (hall 2 (by omega))
    obtain ⟨x2, c3, g3', q3⟩ := hI.c3 (hall 3 (by omega))
    rw [hall 4 (by omega)] at q2
    rw [hall 5 (by omega)] at q3
    have hn := hI.ne (hall 2 (by omega)) (hall 3 (by omega))
    have := hQ x1 x2 w g2' g3' (fun e => hn (by rw [c2, c3, e])) q2 q3 hI.ext
    have ha : (⟨(((a0.tmps.setIfInBounds u1 (.agg A)).setIfInBounds u2 (.agg B)).setIfInBounds d1 (ptr x1)).setIfInBounds d2 (ptr x2), a0.defers⟩ : Act) = a := by
      have e1 : (((a0.tmps.setIfInBounds u1 (.agg A)).setIfInBounds u2 (.agg B)).setIfInBounds d1 (ptr x1)).setIfInBounds d2 (ptr x2) = a.tmps := by
        apply Array.ext_getElem?
        intro t
        by_cases e2 : t = d2
        · subst e2; rw [c3]; simp [l2]
        · rw [Array.getElem?_setIfInBounds_ne (Ne.symm e2)]
          by_cases e3 : t = d1
          · subst e3; rw [c2]; simp [l1]
          · rw [Array.getElem?_setIfInBounds_ne (Ne.symm e3)]
            by_cases e4 : t = u2
            · subst e4; rw [c1]; simp [l4]
            · rw [Array.getElem?_setIfInBounds_ne (Ne.symm e4)]
              by_cases e5 : t = u1
              · subst e5; rw [c0]; simp [l3]
              · rw [Array.getElem?_setIfInBounds_ne (Ne.symm e5)]
                exact (hI.other t e3 e2 e5 e4).symm
      cases a
      simp only [Act.mk.injEq]
      exact ⟨e1, hI.defers.symm⟩
    rw [ha] at this
    exact this
  · have hf : ∀ j, (Array.replicate ops.size false).getD j false = false := fun j => by
      by_cases h : j < ops.size <;> simp [h]
    exact ⟨by simp [hT.size], rfl, rfl, Ext.refl _, fun _ _ _ _ _ => rfl, (fun h => by rw [hf] at h; cases h), (fun h => by rw [hf] at h; cases h), (fun h => by rw [hf] at h; cases h), (fun h => by rw [hf] at h; cases h), (fun h _ => by rw [hf] at h; cases h), (fun h => by rw [hf] at h; cases h), (fun h => by rw [hf] at h; cases h)⟩
end
end Reg
end Go.Proofs.YtipdmhppadapkaaGreatDoor
/-
  Walk: ltree.Root.
-/
namespace Go.Proofs.YtipdmhppadapkaaGreatDoor
open Go.RowKit Sha

theorem and1_even {q : Nat} (hq : q < 4294967296) (h : q % 2 = 0) : bits .and .u32 (q : Int) 1 = 0 := by
  have := u32_and_nat q 1 hq (by omega)
  rw [Nat.and_one_is_mod, h] at this
  exact this
theorem and1_odd {q : Nat} (hq : q < 4294967296) (h : q % 2 = 1) : bits .and .u32 (q : Int) 1 = 1 := by
  have := u32_and_nat q 1 hq (by omega)
  rw [Nat.and_one_is_mod, h] at this
  exact this

/-- what a round of Root starts from -/
structure RtM (w : World) (X sd : Nd) (wr : World) : Prop where
  A : Blk wr w.heap.size 39 (bcells X).toArray
  S : Blk wr (w.heap.size + 1) 39 (bcells sd).toArray
  N : Blk wr (w.heap.size + 2) 39 zn
  B : Below w.heap.size w wr

set_option maxRecDepth 100000 in
set_option maxHeartbeats 4000000 in
theorem mroot_in (leaf : Nd) (hleaf : leaf.length = 32) (idx : Nat) (hidx : idx < 4294967296) (A : Option Addr) (n c : Nat) (ns : List Nd) (hn : n = ns.length) (h32 : All32 ns) (hn32 : n ≤ 32) (sd : Nd) (hsd : sd.length = 32) (w : World) (hR : Rd w w.heap.size 32 A n (ncells ns)) (hT : Tabs w) :
    Calls Tryz.prog 80 #[.agg (bcells leaf).toArray, .int .u32 (idx : Int), .slice A n c, .agg (bcells sd).toArray] w fun e w' => e = .returned (.agg (bcells (rootN sd leaf idx ns n)).toArray) ∧ Below w.heap.size w w' := by
  have hz := zeroNode
  have H32 := Lib.hid h32
  have Hn := Lib.hid hn
  have sdL := Lib.hid hsd
  have leafL := Lib.hid hleaf
  have hnn : ¬ (32 : Int) < (n : Int) := by omega
  have hTl := hT.first.lt
  have hTl2 := hT.rounds.lt
  clear h32 hn hsd hleaf
  have hA := ((Blk.new w 39 (bcells leaf).toArray).alloc (.cells (bcells sd).toArray 39)).alloc (.cells zn 39)
  have hS := (blk_new1 w (.cells (bcells leaf).toArray 39) 39 (bcells sd).toArray).alloc (.cells zn 39)
  have hN := blk_new2 w (.cells (bcells leaf).toArray 39) (.cells (bcells sd).toArray 39) 39 zn
  have B0 : Below w.heap.size w (((w.alloc (.cells (bcells leaf).toArray 39)).alloc (.cells (bcells sd).toArray 39)).alloc (.cells zn 39)) := (((Below.refl _ _).alloc (Nat.le_refl _) _).alloc (by simp) _).alloc (by simp; omega) _
  go_enter Tryz.func80, Tryz.ntmps80
  go_wp2_with fail
  generalize ((w.alloc (.cells (bcells leaf).toArray 39)).alloc (.cells (bcells sd).toArray 39)).alloc (.cells zn 39) = W0 at *
  have hI0 : RtM w leaf sd W0 := ⟨hA, hS, hN, B0⟩
  clear hA hS hN B0 hnn
  go_loopw [1, 19] (fun q i wr => ∃ k : Nat, k ≤ n ∧ i = .int .i64 k ∧ q = .int .u32 ((idx / 2 ^ k : Nat) : Int) ∧ RtM w (rootN sd leaf idx ns k) sd wr) (fun _ i _ => n - (intOf i).toNat)
  case atStart => exact ⟨0, Nat.zero_le _, rfl, by rw [Nat.pow_zero, Nat.div_one], hI0⟩
  case round =>
    clear hI0
    obtain ⟨k, hk, rfl, rfl, hI⟩ := hrel
    obtain ⟨X, hX⟩ : ∃ X, X = rootN sd leaf idx ns k := ⟨_, rfl⟩
    rw [← hX] at hI
    have XL : Hid (X.length = 32) := Lib.hid (by rw [hX]; exact rootN_length _ _ _ _ leafL.out _)
    by_cases hlt : k < n
    · have hip : k < ns.length := by have := Hn.out; omega
      obtain ⟨ab, ao, rfl, hab0, hrg⟩ := hR.range (by omega)
      have hx := (range_node hrg H32.out k hip).later hI.B hab0
      have hxl := H32.out _ (List.getElem_mem hip)
      obtain ⟨x, hxe⟩ : ∃ x, x = ns[k] := ⟨_, rfl⟩
      rw [← hxe] at hx hxl
      have xL := Lib.hid hxl
      obtain ⟨q0, hq0⟩ : ∃ q, q = idx / 2 ^ k := ⟨_, rfl⟩
      have hq0l : q0 < 4294967296 := by rw [hq0]; exact Nat.lt_of_le_of_lt (Nat.div_le_self _ _) hidx
      obtain ⟨q, hq⟩ : ∃ q, q = idx / 2 ^ (k + 1) := ⟨_, rfl⟩
      have hqq : q = q0 / 2 := by rw [hq, hq0, Nat.pow_succ, Nat.div_div_eq_div_mul]
      have hstep : rootN sd leaf idx ns (k + 1) = if q0 % 2 = 0 then randH X x sd (treeAd k q) else randH x X sd (treeAd k q) := by
        rw [rootN, rootStep, ← hX, ← hq0, ← hq, at_get _ _ hip, ← hxe]
      have Hstep := Lib.hid hstep
      have Hq := Lib.hid hq
      have hwk : IntKind.u32.wrap (k : Int) = (k : Int) := IntWalk.u32_in _ (by omega)
      have hwk1 : IntKind.i64.wrap ((k : Int) + 1) = (k : Int) + 1 := by rw [IntKind.wrap_i64]; omega
      have hqi : (q0 : Int) / 2 = (q : Int) := by omega
      have hlt3 : w.heap.size + 2 < wr.heap.size := hI.N.lt
      have hTr := hT.below hI.B
      rw [← hq0]
      clear hxe hX hip hxl hq hstep hqq hR hrg hq0
      go_wp2_with (first
        | ((with_reducible refine at_load 39 ?_); refine wpList_runV rfl (reg_loadRange 39 22 rfl rfl hx Tryz.underlying39 rfl (by rw [List.size_toArray, bcells_length, xL.out]; exact infNode)) ?_)
        | ((with_reducible refine at_store 39 ?_); refine wpList_storeAll _ rfl 39 _ _ rfl wr.heap.size 39 _ (bcells x).toArray (Blk.new wr 39 zn) rfl rfl (by rw [List.size_toArray, bcells_length, xL.out]; kernel_rfl) (by rw [List.size_toArray, bcells_length, xL.out]; kernel_rfl) (fun v hv => bcells_one _ v (by simpa using hv)) ?_; intro w3 h10 hg3 hs3))
      have hC3 : Chg (fun b => b = wr.heap.size) wr w3 := ((Chg.refl _ wr).alloc _).trans (Chg.grown hg3 (by rintro j h; cases h; rfl))
      have hA3 := hI.A.chg hC3 (show ¬ _ = wr.heap.size by omega)
      have hS3 := hI.S.chg hC3 (show ¬ _ = wr.heap.size by omega)
      have hN3 := hI.N.chg hC3 (show ¬ _ = wr.heap.size by omega)
      have B3 : Below w.heap.size w w3 := hI.B.trans (hC3.below (n := w.heap.size) (fun b hb => by have hb : b = wr.heap.size := hb; omega) (by omega))
      have hg10 : wr.heap.size < w3.heap.size := h10.lt
      clear hI hC3 hg3 hs3 hx hTr
      generalize wr.heap.size = g10 at *
      simp only [Act.put]
      refine Reg.wp_region_two (s1 := 4) (s2 := 10) (d1 := 11) (d2 := 12) (u1 := 24) (u2 := 25) (by kernel_rfl) ⟨rfl, ⟨_, rfl, rfl, rfl, rfl⟩, ⟨_, rfl, rfl, rfl, rfl⟩, ⟨_, rfl, rfl, rfl, rfl⟩, ⟨_, rfl, rfl, rfl, rfl⟩, ⟨_, rfl, rfl, rfl, rfl⟩, ⟨_, rfl, rfl, rfl, rfl⟩, ⟨by kernel_rfl, by kernel_rfl⟩, ⟨by kernel_rfl, by kernel_rfl⟩, by kernel_rfl, by kernel_rfl, by kernel_rfl⟩
        zeroNode Tryz.underlying39 rfl (by kernel_rfl) (by rw [List.size_toArray, bcells_length, XL.out]; kernel_rfl) (by rw [List.size_toArray, bcells_length, xL.out]; kernel_rfl) (fun v hv => bcells_one X v (by simpa using hv)) (fun v hv => bcells_one x v (by simpa using hv)) rfl rfl hA3 h10 ?_
      intro b11 b12 w5 g11 g12 d11_12 hl5 hr5 hE
      have hA5 := hA3.drew.ext hE
      have hS5 := hS3.drew.ext hE
      have hN5 := hN3.drew.ext hE
      have h10 := h10.drew.ext hE
      have B5 : Below w.heap.size w w5 := B3.drew.trans (hE.below B3.size)
      have hsz5 : w3.heap.size ≤ w5.drew.heap.size := hE.size
      have d12_11 : ¬ b12 = b11 := fun e => d11_12 e.symm
      have HXl := XL
      have Hxl := xL
      clear hE hA3 hS3 hN3 B3
      simp only [List.setIfInBounds_toArray, List.set_cons_zero, List.set_cons_succ]
      by_cases hpar : q0 % 2 = 1
      case' pos => have hand : bits .and .u32 (q0 : Int) 1 = 1 := and1_odd hq0l hpar
      case' neg => have hand : bits .and .u32 (q0 : Int) 1 = 0 := and1_even hq0l (by omega)
      all_goals
        go_wp2_with fail
      rotate_left
      ·
        refine Flow.wp_region_flow (w3.heap.size) [(2, fun b => b = b11), (3, fun b => b = b12)] [(2, fun W => Blk W (b11) 39 ((bcells X).toArray)), (3, fun W => Blk W (b12) 39 ((bcells x).toArray))] (by kernel_rfl) (by kernel_rfl) hsz5 (Flow.nz_cons (by rintro b rfl; exact g11) (Flow.nz_cons (by rintro b rfl; exact g12) Flow.nz_nil)) (Flow.facts_cons (hl5.drew) (Flow.kept_blk id) (Flow.fz_cons (Flow.no_follow (by kernel_rfl)) (Flow.fz_cons (Flow.no_follow (by kernel_rfl)) Flow.fz_nil)) (Flow.facts_cons (hr5.drew) (Flow.kept_blk id) (Flow.fz_cons (fun _ => Flow.kept_blk (by first | assumption | (show ¬ _ = _; first | assumption | omega | (simp; omega)) | (show ¬ (_ ≤ _); omega))) (Flow.fz_cons (Flow.no_follow (by kernel_rfl)) Flow.fz_nil)) Flow.facts_nil)) ?_
        refine Flow.pass_val (.agg (bcells x).toArray) (Flow.met_none rfl) (fun a W hH => ?_) ?_
        · have e0 := Flow.see_old 10 hH.sees (by kernel_rfl) (by kernel_rfl) rfl
          exact reg_load 39 _ rfl e0 (h10.drew.below hH.below hg10) Tryz.underlying39 rfl (by rw [List.size_toArray, bcells_length, xL.out]; exact infNode)
        refine Flow.pass_val (.agg (bcells X).toArray) (Flow.met_none rfl) (fun a W hH => ?_) ?_
        · have e0 := Flow.see_old 4 hH.sees (by kernel_rfl) (by kernel_rfl) rfl
          exact reg_load 39 _ rfl e0 (hA5.drew.below hH.below (by omega)) Tryz.underlying39 rfl (by rw [List.size_toArray, bcells_length, XL.out]; exact infNode)
        refine Flow.pass_list (fun _ W => Blk W (b11) 39 (bcells x).toArray) (Flow.kept_of (fun _ _ _ c h => h.chg c id) (Flow.kz_cons (Flow.no_follow (by kernel_rfl)) (Flow.kz_cons (fun _ => fun _ _ _ c h => h.chg c (fun e => d11_12 e)) Flow.kz_nil))) (Flow.met_none rfl) (fun a W hH => ?_) ?_
        · have e0 := Flow.see_old 11 hH.sees (by kernel_rfl) (by kernel_rfl) rfl
          have e1 := Flow.see_new 29 0 hH.sees (by kernel_rfl) (by kernel_rfl) rfl rfl
          have fa0 : (fun W => Blk W (b11) 39 ((bcells X).toArray)) W := hH.fact _ (List.mem_of_getElem? (i := 0) rfl) rfl
          refine wpList_storeAll W rfl 39 _ _ rfl (b11) 39 _ (bcells x).toArray fa0 (by simpa [Act.eval] using e0) (by simpa [Act.eval] using e1) (by simp only [List.size_toArray, bcells_length, xL.out, XL.out]) (by rw [List.size_toArray, bcells_length, xL.out]; kernel_rfl) (fun v hv => bcells_one _ v (by simpa using hv)) ?_
          intro W2 h2 hg _
          exact Flow.qq_nil ⟨_, rfl, Chg.grown hg (by rintro k h; cases h; rfl), h2⟩
        refine Flow.pass_list (fun _ W => Blk W (b12) 39 (bcells X).toArray) (Flow.kept_of (fun _ _ _ c h => h.chg c id) (Flow.kz_cons (Flow.no_follow (by kernel_rfl)) (Flow.kz_cons (Flow.no_follow (by kernel_rfl)) Flow.kz_nil))) (Flow.met_none rfl) (fun a W hH => ?_) ?_
        · have e0 := Flow.see_old 12 hH.sees (by kernel_rfl) (by kernel_rfl) rfl
          have e1 := Flow.see_new 30 1 hH.sees (by kernel_rfl) (by kernel_rfl) rfl rfl
          have fa1 : (fun W => Blk W (b12) 39 ((bcells x).toArray)) W := hH.fact _ (List.mem_of_getElem? (i := 1) rfl) rfl
          refine wpList_storeAll W rfl 39 _ _ rfl (b12) 39 _ (bcells X).toArray fa1 (by simpa [Act.eval] using e0) (by simpa [Act.eval] using e1) (by simp only [List.size_toArray, bcells_length, xL.out, XL.out]) (by rw [List.size_toArray, bcells_length, XL.out]; kernel_rfl) (fun v hv => bcells_one _ v (by simpa using hv)) ?_
          intro W2 h2 hg _
          exact Flow.qq_nil ⟨_, rfl, Chg.grown hg (by rintro k h; cases h; rfl), h2⟩
        refine Flow.pass_end [none, none, none, none, none, none, none, none, none, none, none, none, none, none, none, none, none, none, none, none, none, none, none, none, none, none, none, none, none, some 29, some 30, none, none, none, none, none, none, none, none, none, none, none, none] (by kernel_rfl) ?_
        intro f1 gg1 wV hBV hfa1 hT1 hfg1
        have hlV := hT1 2 _ (by kernel_rfl) rfl
        have hrV := hT1 3 _ (by kernel_rfl) rfl
        have hAV := hA5.drew.below hBV (by omega)
        have hSV := hS5.drew.below hBV (by omega)
        have hNV := hN5.drew.below hBV (by omega)
        have BV : Below w.heap.size w wV := B5.drew.trans (hBV.mono (by omega))
        have hszV : w.heap.size ≤ wV.drew.heap.size := BV.size
        have hTV := hT.below BV
        clear hfa1 hT1 hfg1 hBV hA5 hS5 hN5 hl5 hr5 h10 B5 hT
        simp only [Reg.sel]
        go_wp2_with fail
        obtain ⟨S, hS⟩ : ∃ S, S = randH x X sd (treeAd k q) := ⟨_, rfl⟩
        have HSl : Hid (S.length = 32) := Lib.hid (by rw [hS]; exact keyed_length _ _)
        have Hrt : Hid (rootN sd leaf idx ns (k + 1) = S) := Lib.hid (by rw [Hstep.out, if_neg (by omega), hS])
        have HS := Lib.hid hS
        clear hS
        refine Flow.wp_region_flow (w.heap.size) [(8, fun b => b = w.heap.size)] [(0, fun W => Blk W (b11) 39 ((bcells x).toArray)), (1, fun W => Blk W (b12) 39 ((bcells X).toArray)), (2, fun W => Blk W (w.heap.size + 1) 39 ((bcells sd).toArray)), (8, fun W => Blk W (w.heap.size) 39 ((bcells X).toArray)), (9, fun W => Blk W (w.heap.size + 1) 39 ((bcells sd).toArray)), (9, fun W => Blk W (w.heap.size + 2) 39 (zn))] (by kernel_rfl) (by kernel_rfl) hszV (Flow.nz_cons (by rintro b rfl; exact Nat.le_refl _) Flow.nz_nil) (Flow.facts_cons (hlV.drew) (Flow.kept_blk id) (Flow.fz_cons (Flow.no_follow (by kernel_rfl)) Flow.fz_nil) (Flow.facts_cons (hrV.drew) (Flow.kept_blk id) (Flow.fz_cons (Flow.no_follow (by kernel_rfl)) Flow.fz_nil) (Flow.facts_cons (hSV.drew) (Flow.kept_blk id) (Flow.fz_cons (Flow.no_follow (by kernel_rfl)) Flow.fz_nil) (Flow.facts_cons (hAV.drew) (Flow.kept_blk id) (Flow.fz_cons (Flow.no_follow (by kernel_rfl)) Flow.fz_nil) (Flow.facts_cons (hSV.drew) (Flow.kept_blk id) (Flow.fz_cons (fun _ => Flow.kept_blk (by first | assumption | (show ¬ _ = _; first | assumption | omega | (simp; omega)) | (show ¬ (_ ≤ _); omega))) Flow.fz_nil) (Flow.facts_cons (hNV.drew) (Flow.kept_blk id) (Flow.fz_cons (fun _ => Flow.kept_blk (by first | assumption | (show ¬ _ = _; first | assumption | omega | (simp; omega)) | (show ¬ (_ ≤ _); omega))) Flow.fz_nil) Flow.facts_nil)))))) ?_
        refine Flow.pass_val (.agg (bcells x).toArray) (Flow.met_none rfl) (fun a W hH => ?_) ?_
        · have e0 := Flow.see_old 11 hH.sees (by kernel_rfl) (by kernel_rfl) rfl
          have fa0 : (fun W => Blk W (b11) 39 ((bcells x).toArray)) W := hH.fact _ (List.mem_of_getElem? (i := 0) rfl) rfl
          exact reg_load 39 _ rfl e0 fa0 Tryz.underlying39 rfl (by rw [List.size_toArray, bcells_length, xL.out]; exact infNode)
        refine Flow.pass_val (.agg (bcells X).toArray) (Flow.met_none rfl) (fun a W hH => ?_) ?_
        · have e0 := Flow.see_old 12 hH.sees (by kernel_rfl) (by kernel_rfl) rfl
          have fa1 : (fun W => Blk W (b12) 39 ((bcells X).toArray)) W := hH.fact _ (List.mem_of_getElem? (i := 1) rfl) rfl
          exact reg_load 39 _ rfl e0 fa1 Tryz.underlying39 rfl (by rw [List.size_toArray, bcells_length, XL.out]; exact infNode)
        refine Flow.pass_val (.agg (bcells sd).toArray) (Flow.met_none rfl) (fun a W hH => ?_) ?_
        · have e0 := Flow.see_old 7 hH.sees (by kernel_rfl) (by kernel_rfl) rfl
          have fa2 : (fun W => Blk W (w.heap.size + 1) 39 ((bcells sd).toArray)) W := hH.fact _ (List.mem_of_getElem? (i := 2) rfl) rfl
          exact reg_load 39 _ rfl e0 fa2 Tryz.underlying39 rfl (by rw [List.size_toArray, bcells_length, sdL.out]; exact infNode)
        refine Flow.pass_old (X := .int .i64 (k : Int)) 9 (Flow.met_none rfl) (.inl rfl) (by kernel_rfl) (by kernel_rfl) rfl ?_
        refine Flow.pass_val (.int .u32 (k : Int)) (Flow.met_none rfl) (fun a W hH => ?_) ?_
        · have e0 := Flow.see_new 36 3 hH.sees (by kernel_rfl) (by kernel_rfl) rfl rfl
          go_simp; first | done | rfl | rw [hwk]
        refine Flow.pass_old (X := .int .u32 (q : Int)) 1 (Flow.met_none rfl) (.inl rfl) (by kernel_rfl) (by kernel_rfl) rfl ?_
        refine Flow.pass_step (Reg.eqs (.agg (treeAd k q).cells)) (fun _ _ => Flow.kept_eqs _ _) (Flow.met_none rfl) (fun a W hH => ?_) ?_
        · have e0 := Flow.see_new 37 4 hH.sees (by kernel_rfl) (by kernel_rfl) rfl rfl
          have e1 := Flow.see_new 38 5 hH.sees (by kernel_rfl) (by kernel_rfl) rfl rfl
          refine Reg.wp_call rfl Tryz.func122 rfl (by kernel_rfl) (by simp [Act.eval, e0, e1]) (tree_any k q W) ?_
          rintro e w' ⟨rfl, hB⟩
          exact ⟨_, rfl, _, rfl, hB, rfl⟩
        refine Flow.pass_step (Reg.eqs (.agg (bcells S).toArray)) (fun _ _ => Flow.kept_eqs _ _) (Flow.met_none rfl) (fun a W hH => ?_) ?_
        · have e0 := Flow.see_new 33 0 hH.sees (by kernel_rfl) (by kernel_rfl) rfl rfl
          have e1 := Flow.see_new 34 1 hH.sees (by kernel_rfl) (by kernel_rfl) rfl rfl
          have e2 := Flow.see_new 35 2 hH.sees (by kernel_rfl) (by kernel_rfl) rfl rfl
          have e3 := Flow.see_new 39 6 hH.sees (by kernel_rfl) (by kernel_rfl) rfl rfl
          refine Reg.wp_call rfl Tryz.func121 rfl (by kernel_rfl) (by simp [Act.eval, e0, e1, e2, e3]) (mrand_any x X sd xL.out XL.out sdL.out (treeAd k q) W (hTV.drew.under hH.below hTl2 hTl)) ?_
          rintro e w' ⟨rfl, hB⟩
          rw [← HS.out]
          exact ⟨_, rfl, _, rfl, hB, rfl⟩
        refine Flow.pass_list (fun _ W => Blk W (w.heap.size) 39 (bcells S).toArray) (Flow.kept_of (fun _ _ _ c h => h.chg c id) (Flow.kz_cons (Flow.no_follow (by kernel_rfl)) Flow.kz_nil)) (Flow.met_none rfl) (fun a W hH => ?_) ?_
        · have e0 := Flow.see_old 4 hH.sees (by kernel_rfl) (by kernel_rfl) rfl
          have e1 := Flow.see_new 40 7 hH.sees (by kernel_rfl) (by kernel_rfl) rfl rfl
          have fa3 : (fun W => Blk W (w.heap.size) 39 ((bcells X).toArray)) W := hH.fact _ (List.mem_of_getElem? (i := 3) rfl) rfl
          refine wpList_storeAll W rfl 39 _ _ rfl (w.heap.size) 39 _ (bcells S).toArray fa3 (by simpa [Act.eval] using e0) (by simpa [Act.eval] using e1) (by simp only [List.size_toArray, bcells_length, HSl.out, XL.out]) (by rw [List.size_toArray, bcells_length, HSl.out]; kernel_rfl) (fun v hv => bcells_one _ v (by simpa using hv)) ?_
          intro W2 h2 hg _
          exact Flow.qq_nil ⟨_, rfl, Chg.grown hg (by rintro k h; cases h; rfl), h2⟩
        refine Flow.pass_end [none, none, none, none, none, none, none, none, none, none, none, none, none, none, none, none, none, none, none, none, none, none, none, none, none, none, none, none, none, none, none, none, none, some 33, some 34, some 35, some 36, some 37, some 38, some 39, some 40, none, none] (by kernel_rfl) ?_
        intro f2 gg2 wA hBA hfa2 hT2 hfg2
        have h4 := hT2 8 _ (by kernel_rfl) rfl
        have F4 := hfa2 _ (List.mem_of_getElem? (i := 4) rfl) (Nat.le_refl _)
        have F5 := hfa2 _ (List.mem_of_getElem? (i := 5) rfl) (Nat.le_refl _)
        have BA := BV.drew.trans hBA
        clear hfa2 hT2 hfg2 hBA
        simp only [Reg.sel]
        go_wp2_with fail
        go_roundw
        case rel => exact ⟨k + 1, by omega, by go_num, by rw [← Hq.out], by rw [Hrt.out]; exact h4, F4, F5, BA⟩
        case measure => simp [intOf]; omega
      · obtain ⟨wV, hwV⟩ : ∃ V, V = w5 := ⟨_, rfl⟩
        rw [← hwV] at hA5 hS5 hN5 hl5 hr5 B5 ⊢
        have hlV := hl5
        have hrV := hr5
        have hAV := hA5
        have hSV := hS5
        have hNV := hN5
        have BV := B5
        have hszV : w.heap.size ≤ wV.drew.heap.size := BV.size
        have hTV := hT.below BV
        clear hwV hA5 hS5 hN5 hl5 hr5 h10 B5 hT
        obtain ⟨S, hS⟩ : ∃ S, S = randH X x sd (treeAd k q) := ⟨_, rfl⟩
        have HSl : Hid (S.length = 32) := Lib.hid (by rw [hS]; exact keyed_length _ _)
        have Hrt : Hid (rootN sd leaf idx ns (k + 1) = S) := Lib.hid (by rw [Hstep.out, if_pos (by omega), hS])
        have HS := Lib.hid hS
        clear hS
        refine Flow.wp_region_flow (w.heap.size) [(8, fun b => b = w.heap.size)] [(0, fun W => Blk W (b11) 39 ((bcells X).toArray)), (1, fun W => Blk W (b12) 39 ((bcells x).toArray)), (2, fun W => Blk W (w.heap.size + 1) 39 ((bcells sd).toArray)), (8, fun W => Blk W (w.heap.size) 39 ((bcells X).toArray)), (9, fun W => Blk W (w.heap.size + 1) 39 ((bcells sd).toArray)), (9, fun W => Blk W (w.heap.size + 2) 39 (zn))] (by kernel_rfl) (by kernel_rfl) hszV (Flow.nz_cons (by rintro b rfl; exact Nat.le_refl _) Flow.nz_nil) (Flow.facts_cons (hlV.drew) (Flow.kept_blk id) (Flow.fz_cons (Flow.no_follow (by kernel_rfl)) Flow.fz_nil) (Flow.facts_cons (hrV.drew) (Flow.kept_blk id) (Flow.fz_cons (Flow.no_follow (by kernel_rfl)) Flow.fz_nil) (Flow.facts_cons (hSV.drew) (Flow.kept_blk id) (Flow.fz_cons (Flow.no_follow (by kernel_rfl)) Flow.fz_nil) (Flow.facts_cons (hAV.drew) (Flow.kept_blk id) (Flow.fz_cons (Flow.no_follow (by kernel_rfl)) Flow.fz_nil) (Flow.facts_cons (hSV.drew) (Flow.kept_blk id) (Flow.fz_cons (fun _ => Flow.kept_blk (by first | assumption | (show ¬ _ = _; first | assumption | omega | (simp; omega)) | (show ¬ (_ ≤ _); omega))) Flow.fz_nil) (Flow.facts_cons (hNV.drew) (Flow.kept_blk id) (Flow.fz_cons (fun _ => Flow.kept_blk (by first | assumption | (show ¬ _ = _; first | assumption | omega | (simp; omega)) | (show ¬ (_ ≤ _); omega))) Flow.fz_nil) Flow.facts_nil)))))) ?_
        refine Flow.pass_val (.agg (bcells X).toArray) (Flow.met_none rfl) (fun a W hH => ?_) ?_
        · have e0 := Flow.see_old 11 hH.sees (by kernel_rfl) (by kernel_rfl) rfl
          have fa0 : (fun W => Blk W (b11) 39 ((bcells X).toArray)) W := hH.fact _ (List.mem_of_getElem? (i := 0) rfl) rfl
          exact reg_load 39 _ rfl e0 fa0 Tryz.underlying39 rfl (by rw [List.size_toArray, bcells_length, XL.out]; exact infNode)
        refine Flow.pass_val (.agg (bcells x).toArray) (Flow.met_none rfl) (fun a W hH => ?_) ?_
        · have e0 := Flow.see_old 12 hH.sees (by kernel_rfl) (by kernel_rfl) rfl
          have fa1 : (fun W => Blk W (b12) 39 ((bcells x).toArray)) W := hH.fact _ (List.mem_of_getElem? (i := 1) rfl) rfl
          exact reg_load 39 _ rfl e0 fa1 Tryz.underlying39 rfl (by rw [List.size_toArray, bcells_length, xL.out]; exact infNode)
        refine Flow.pass_val (.agg (bcells sd).toArray) (Flow.met_none rfl) (fun a W hH => ?_) ?_
        · have e0 := Flow.see_old 7 hH.sees (by kernel_rfl) (by kernel_rfl) rfl
          have fa2 : (fun W => Blk W (w.heap.size + 1) 39 ((bcells sd).toArray)) W := hH.fact _ (List.mem_of_getElem? (i := 2) rfl) rfl
          exact reg_load 39 _ rfl e0 fa2 Tryz.underlying39 rfl (by rw [List.size_toArray, bcells_length, sdL.out]; exact infNode)
        refine Flow.pass_old (X := .int .i64 (k : Int)) 9 (Flow.met_none rfl) (.inl rfl) (by kernel_rfl) (by kernel_rfl) rfl ?_
        refine Flow.pass_val (.int .u32 (k : Int)) (Flow.met_none rfl) (fun a W hH => ?_) ?_
        · have e0 := Flow.see_new 36 3 hH.sees (by kernel_rfl) (by kernel_rfl) rfl rfl
          go_simp; first | done | rfl | rw [hwk]
        refine Flow.pass_old (X := .int .u32 (q : Int)) 1 (Flow.met_none rfl) (.inl rfl) (by kernel_rfl) (by kernel_rfl) rfl ?_
        refine Flow.pass_step (Reg.eqs (.agg (treeAd k q).cells)) (fun _ _ => Flow.kept_eqs _ _) (Flow.met_none rfl) (fun a W hH => ?_) ?_
        · have e0 := Flow.see_new 37 4 hH.sees (by kernel_rfl) (by kernel_rfl) rfl rfl
          have e1 := Flow.see_new 38 5 hH.sees (by kernel_rfl) (by kernel_rfl) rfl rfl
          refine Reg.wp_call rfl Tryz.func122 rfl (by kernel_rfl) (by simp [Act.eval, e0, e1]) (tree_any k q W) ?_
          rintro e w' ⟨rfl, hB⟩
          exact ⟨_, rfl, _, rfl, hB, rfl⟩
        refine Flow.pass_step (Reg.eqs (.agg (bcells S).toArray)) (fun _ _ => Flow.kept_eqs _ _) (Flow.met_none rfl) (fun a W hH => ?_) ?_
        · have e0 := Flow.see_new 33 0 hH.sees (by kernel_rfl) (by kernel_rfl) rfl rfl
          have e1 := Flow.see_new 34 1 hH.sees (by kernel_rfl) (by kernel_rfl) rfl rfl
          have e2 := Flow.see_new 35 2 hH.sees (by kernel_rfl) (by kernel_rfl) rfl rfl
          have e3 := Flow.see_new 39 6 hH.sees (by kernel_rfl) (by kernel_rfl) rfl rfl
          refine Reg.wp_call rfl Tryz.func121 rfl (by kernel_rfl) (by simp [Act.eval, e0, e1, e2, e3]) (mrand_any X x sd XL.out xL.out sdL.out (treeAd k q) W (hTV.drew.under hH.below hTl2 hTl)) ?_
          rintro e w' ⟨rfl, hB⟩
          rw [← HS.out]
          exact ⟨_, rfl, _, rfl, hB, rfl⟩
        refine Flow.pass_list (fun _ W => Blk W (w.heap.size) 39 (bcells S).toArray) (Flow.kept_of (fun _ _ _ c h => h.chg c id) (Flow.kz_cons (Flow.no_follow (by kernel_rfl)) Flow.kz_nil)) (Flow.met_none rfl) (fun a W hH => ?_) ?_
        · have e0 := Flow.see_old 4 hH.sees (by kernel_rfl) (by kernel_rfl) rfl
          have e1 := Flow.see_new 40 7 hH.sees (by kernel_rfl) (by kernel_rfl) rfl rfl
          have fa3 : (fun W => Blk W (w.heap.size) 39 ((bcells X).toArray)) W := hH.fact _ (List.mem_of_getElem? (i := 3) rfl) rfl
          refine wpList_storeAll W rfl 39 _ _ rfl (w.heap.size) 39 _ (bcells S).toArray fa3 (by simpa [Act.eval] using e0) (by simpa [Act.eval] using e1) (by simp only [List.size_toArray, bcells_length, HSl.out, XL.out]) (by rw [List.size_toArray, bcells_length, HSl.out]; kernel_rfl) (fun v hv => bcells_one _ v (by simpa using hv)) ?_
          intro W2 h2 hg _
          exact Flow.qq_nil ⟨_, rfl, Chg.grown hg (by rintro k h; cases h; rfl), h2⟩
        refine Flow.pass_end [none, none, none, none, none, none, none, none, none, none, none, none, none, none, none, none, none, none, none, none, none, none, none, none, none, none, none, none, none, none, none, none, none, some 33, some 34, some 35, some 36, some 37, some 38, some 39, some 40, none, none] (by kernel_rfl) ?_
        intro f2 gg2 wA hBA hfa2 hT2 hfg2
        have h4 := hT2 8 _ (by kernel_rfl) rfl
        have F4 := hfa2 _ (List.mem_of_getElem? (i := 4) rfl) (Nat.le_refl _)
        have F5 := hfa2 _ (List.mem_of_getElem? (i := 5) rfl) (Nat.le_refl _)
        have BA := BV.drew.trans hBA
        clear hfa2 hT2 hfg2 hBA
        simp only [Reg.sel]
        go_wp2_with fail
        go_roundw
        case rel => exact ⟨k + 1, by omega, by go_num, by rw [← Hq.out], by rw [Hrt.out]; exact h4, F4, F5, BA⟩
        case measure => simp [intOf]; omega
    · obtain rfl : k = n := by omega
      go_wp2_with (first
        | ((with_reducible refine at_load 39 ?_); refine wpList_loadAll _ rfl 39 _ rfl w.heap.size 39 (bcells X).toArray hI.A _ rfl Tryz.underlying39 rfl (by rw [List.size_toArray, bcells_length, XL.out]; kernel_rfl) ?_)
        | ((with_reducible refine at_store 39 ?_); refine wpList_storeAll _ rfl 39 _ _ rfl (w.heap.size + 2) 39 _ (bcells X).toArray hI.N rfl rfl (by rw [List.size_toArray, bcells_length, XL.out]; kernel_rfl) (by rw [List.size_toArray, bcells_length, XL.out]; kernel_rfl) (fun v hv => bcells_one _ v (by simpa using hv)) ?_; intro w5 h5 hg5 hs5))
      refine bodyPost_ret (results_cell_row rfl _ _ (w.heap.size + 2) _ _ _ _ rfl h5 Tryz.underlying39 rfl (by rw [List.size_toArray, bcells_length, XL.out]; kernel_rfl)) rfl ⟨by rw [hX], ?_⟩
      exact grown_below hI.B hg5 hI.B.size (by omega)
end Go.Proofs.YtipdmhppadapkaaGreatDoor
/-
  Walk: portreeveref04.Root.
-/
namespace Go.Proofs.YtipdmhppadapkaaGreatDoor
open Go.RowKit Sha

/-- what a round of the reference's Root starts from -/
structure RtR (w : World) (X sd : Nd) (wr : World) : Prop where
  S : Blk wr (w.heap.size + 1) 39 (bcells sd).toArray
  N : Blk wr (w.heap.size + 2) 39 zn
  X : Blk wr (w.heap.size + 3) 39 (bcells X).toArray
  B : Below w.heap.size w wr

set_option maxRecDepth 100000 in
set_option maxHeartbeats 4000000 in
theorem rroot_in (leaf : Nd) (hleaf : leaf.length = 32) (idx : Nat) (hidx : idx < 4294967296) (A : Option Addr) (n c : Nat) (ns : List Nd) (hn : n = ns.length) (h32 : All32 ns) (hn32 : n ≤ 32) (sd : Nd) (hsd : sd.length = 32) (w : World) (hR : Rd w w.heap.size 32 A n (ncells ns)) :
    Calls Tryz.prog 46 #[.agg (bcells leaf).toArray, .int .u32 (idx : Int), .slice A n c, .agg (bcells sd).toArray] w fun e w' => e = .returned (.agg (bcells (rootN sd leaf idx ns n)).toArray) ∧ Below w.heap.size w w' := by
  have hz := zeroNode
  have H32 := Lib.hid h32
  have Hn := Lib.hid hn
  have sdL := Lib.hid hsd
  have leafL := Lib.hid hleaf
  have hnn : ¬ (32 : Int) < (n : Int) := by omega
  clear h32 hn hsd hleaf
  have hA := ((Blk.new w 39 (bcells leaf).toArray).alloc (.cells (bcells sd).toArray 39)).alloc (.cells zn 39)
  have hS := (blk_new1 w (.cells (bcells leaf).toArray 39) 39 (bcells sd).toArray).alloc (.cells zn 39)
  have hN := blk_new2 w (.cells (bcells leaf).toArray 39) (.cells (bcells sd).toArray 39) 39 zn
  have B0 : Below w.heap.size w (((w.alloc (.cells (bcells leaf).toArray 39)).alloc (.cells (bcells sd).toArray 39)).alloc (.cells zn 39)) := (((Below.refl _ _).alloc (Nat.le_refl _) _).alloc (by simp) _).alloc (by simp; omega) _
  have h3 : Hid ((((w.alloc (.cells (bcells leaf).toArray 39)).alloc (.cells (bcells sd).toArray 39)).alloc (.cells zn 39)).heap.size = w.heap.size + 3) := Lib.hid (by simp)
  go_enter Tryz.func46, Tryz.ntmps46
  go_wp2_with (first
    | ((with_reducible refine at_load 39 ?_); refine wpList_loadAll _ rfl 39 _ rfl w.heap.size 39 (bcells leaf).toArray hA _ rfl Tryz.underlying39 rfl (by rw [List.size_toArray, bcells_length, leafL.out]; kernel_rfl) ?_)
    | ((with_reducible refine at_store 39 ?_); refine wpList_storeAll _ rfl 39 _ _ rfl (w.heap.size + 3) 39 zn (bcells leaf).toArray (by have := Blk.new (((w.alloc (.cells (bcells leaf).toArray 39)).alloc (.cells (bcells sd).toArray 39)).alloc (.cells zn 39)) 39 zn; rw [h3.out] at this; exact this) rfl rfl (by rw [List.size_toArray, bcells_length, leafL.out]; kernel_rfl) (by rw [List.size_toArray, bcells_length, leafL.out]; kernel_rfl) (fun v hv => bcells_one _ v (by simpa using hv)) ?_; intro w3 hX hg3 hs3))
  have hC3 : Chg (fun b => b = w.heap.size + 3) _ w3 := ((Chg.refl _ _).alloc _).trans (Chg.grown hg3 (by rintro j h; cases h; rfl))
  have hI0 : RtR w leaf sd w3 := ⟨hS.chg hC3 (show ¬ _ = _ by omega), hN.chg hC3 (show ¬ _ = _ by omega), hX, B0.trans (hC3.below (n := w.heap.size) (fun b hb => by have hb : b = w.heap.size + 3 := hb; omega) (by simp; omega))⟩
  clear hA hS hN B0 hnn hX hg3 hs3 hC3 h3
  go_loopw [19] (fun i wr => ∃ k : Nat, k ≤ n ∧ i = .int .i64 k ∧ RtR w (rootN sd leaf idx ns k) sd wr) (fun i _ => n - (intOf i).toNat)
  case atStart => exact ⟨0, Nat.zero_le _, rfl, hI0⟩
  case round =>
    clear hI0
    obtain ⟨k, hk, rfl, hI⟩ := hrel
    obtain ⟨X, hX⟩ : ∃ X, X = rootN sd leaf idx ns k := ⟨_, rfl⟩
    rw [← hX] at hI
    have XL : Hid (X.length = 32) := Lib.hid (by rw [hX]; exact rootN_length _ _ _ _ leafL.out _)
    by_cases hlt : k < n
    · have hip : k < ns.length := by have := Hn.out; omega
      obtain ⟨ab, ao, rfl, hab0, hrg⟩ := hR.range (by omega)
      have hx := (range_node hrg H32.out k hip).later hI.B hab0
      have hxl := H32.out _ (List.getElem_mem hip)
      obtain ⟨x, hxe⟩ : ∃ x, x = ns[k] := ⟨_, rfl⟩
      rw [← hxe] at hx hxl
      have xL := Lib.hid hxl
      obtain ⟨q0, hq0⟩ : ∃ q, q = idx / 2 ^ k := ⟨_, rfl⟩
      have hq0l : q0 < 4294967296 := by rw [hq0]; exact Nat.lt_of_le_of_lt (Nat.div_le_self _ _) hidx
      obtain ⟨q, hq⟩ : ∃ q, q = idx / 2 ^ (k + 1) := ⟨_, rfl⟩
      have hql : q < 4294967296 := by rw [hq]; exact Nat.lt_of_le_of_lt (Nat.div_le_self _ _) hidx
      have hstep : rootN sd leaf idx ns (k + 1) = if q0 % 2 = 0 then randH X x sd (treeAd k q) else randH x X sd (treeAd k q) := by
        rw [rootN, rootStep, ← hX, ← hq0, ← hq, at_get _ _ hip, ← hxe]
      have Hstep := Lib.hid hstep
      have hok : (treeAd k q).ok := treeAd_ok (by omega) hql
      have hwk : IntKind.u32.wrap (k : Int) = (k : Int) := IntWalk.u32_in _ (by omega)
      have hwk1 : IntKind.i64.wrap ((k : Int) + 1) = (k : Int) + 1 := by rw [IntKind.wrap_i64]; omega
      have hs1 : (idx : Int) / 2 ^ (k + 1) = (q : Int) := by rw [hq]; simp
      have hs0 : (idx : Int) / 2 ^ k = (q0 : Int) := by rw [hq0]; simp
      have hm : (q : Int) % 4294967296 = (q : Int) := by omega
      have hw64 : IntKind.u64.wrap (idx : Int) = (idx : Int) := IntWalk.u64_in _ (by omega)
      have hlt3 : w.heap.size + 3 < wr.heap.size := hI.X.lt
      clear hxe hX hip hxl hstep hR hrg hq hq0
      by_cases hpar : q0 % 2 = 0
      case' pos => have hand : bits .and .u32 (q0 : Int) 1 = 0 := and1_even hq0l hpar
      case' neg => have hand : bits .and .u32 (q0 : Int) 1 = 1 := and1_odd hq0l (by omega)
      all_goals
        go_wp2_with fail
        have hxV : Blk (wr.alloc (.cells (treeAd k q).cells 162)) wr.heap.size 162 (treeAd k q).cells := Blk.new _ _ _
        have hSV := hI.S.alloc (.cells (treeAd k q).cells 162)
        have hNV := hI.N.alloc (.cells (treeAd k q).cells 162)
        have hXV := hI.X.alloc (.cells (treeAd k q).cells 162)
        have BV := hI.B.alloc hI.B.size (.cells (treeAd k q).cells 162)
        have hxa : (wr.alloc (.cells (treeAd k q).cells 162)).drew.rangeAt ab (ao + k * 32) (bcells x) := hx.later (((Below.refl w.heap.size wr).alloc hI.B.size _).drew) hab0
        change Code.wp _ _ _ _ (wr.alloc (.cells (treeAd k q).cells 162))
        generalize wr.alloc (.cells (treeAd k q).cells 162) = wV at *
        have hgx : w.heap.size + 3 < wr.heap.size := hlt3
        generalize wr.heap.size = gx at *
        have hszV : w.heap.size ≤ wV.drew.heap.size := BV.size
        clear hI hs1 hs0 hm hw64
      rotate_left
      ·
        obtain ⟨S, hS⟩ : ∃ S, S = randH X x sd (treeAd k q) := ⟨_, rfl⟩
        have HSl : Hid (S.length = 32) := Lib.hid (by rw [hS]; exact keyed_length _ _)
        have Hrt : Hid (rootN sd leaf idx ns (k + 1) = S) := Lib.hid (by rw [Hstep.out, if_pos (by omega), hS])
        have HS := Lib.hid hS
        clear hS
        refine Flow.wp_region_flow (w.heap.size) [(8, fun b => b = w.heap.size + 3)] [(0, fun W => Blk W (w.heap.size + 3) 39 ((bcells X).toArray)), (5, fun W => Blk W (w.heap.size + 1) 39 ((bcells sd).toArray)), (6, fun W => Blk W gx 162 ((treeAd k q).cells)), (8, fun W => Blk W (w.heap.size + 3) 39 ((bcells X).toArray)), (9, fun W => Blk W (w.heap.size + 1) 39 ((bcells sd).toArray)), (9, fun W => Blk W (w.heap.size + 2) 39 (zn))] (by kernel_rfl) (by kernel_rfl) hszV (Flow.nz_cons (by rintro b rfl; omega) Flow.nz_nil) (Flow.facts_cons (hXV.drew) (Flow.kept_blk id) (Flow.fz_cons (Flow.no_follow (by kernel_rfl)) Flow.fz_nil) (Flow.facts_cons (hSV.drew) (Flow.kept_blk id) (Flow.fz_cons (Flow.no_follow (by kernel_rfl)) Flow.fz_nil) (Flow.facts_cons (hxV.drew) (Flow.kept_blk id) (Flow.fz_cons (Flow.no_follow (by kernel_rfl)) Flow.fz_nil) (Flow.facts_cons (hXV.drew) (Flow.kept_blk id) (Flow.fz_cons (Flow.no_follow (by kernel_rfl)) Flow.fz_nil) (Flow.facts_cons (hSV.drew) (Flow.kept_blk id) (Flow.fz_cons (fun _ => Flow.kept_blk (by first | assumption | (show ¬ _ = _; first | assumption | omega | (simp; omega)) | (show ¬ (_ ≤ _); omega))) Flow.fz_nil) (Flow.facts_cons (hNV.drew) (Flow.kept_blk id) (Flow.fz_cons (fun _ => Flow.kept_blk (by first | assumption | (show ¬ _ = _; first | assumption | omega | (simp; omega)) | (show ¬ (_ ≤ _); omega))) Flow.fz_nil) Flow.facts_nil)))))) ?_
        refine Flow.pass_val (.agg (bcells X).toArray) (Flow.met_none rfl) (fun a W hH => ?_) ?_
        · have e0 := Flow.see_old 9 hH.sees (by kernel_rfl) (by kernel_rfl) rfl
          have fa0 : (fun W => Blk W (w.heap.size + 3) 39 ((bcells X).toArray)) W := hH.fact _ (List.mem_of_getElem? (i := 0) rfl) rfl
          exact reg_load 39 _ rfl e0 fa0 Tryz.underlying39 rfl (by rw [List.size_toArray, bcells_length, XL.out]; exact infNode)
        refine Flow.pass_old (X := .slice (some ⟨ab, ao, none⟩) n c) 2 (Flow.met_none rfl) (.inl rfl) (by kernel_rfl) (by kernel_rfl) rfl ?_
        refine Flow.pass_old (X := .int .i64 (k : Nat)) 10 (Flow.met_none rfl) (.inl rfl) (by kernel_rfl) (by kernel_rfl) rfl ?_
        refine Flow.pass_val (.pointer (some ⟨ab, ao + k * 32, none⟩)) (Flow.met_none rfl) (fun a W hH => ?_) ?_
        · have e0 := Flow.see_new 37 1 hH.sees (by kernel_rfl) (by kernel_rfl) rfl rfl
          have e1 := Flow.see_new 38 2 hH.sees (by kernel_rfl) (by kernel_rfl) rfl rfl
          go_simp
        refine Flow.pass_val (.agg (bcells x).toArray) (Flow.met_none rfl) (fun a W hH => ?_) ?_
        · have e0 := Flow.see_new 39 3 hH.sees (by kernel_rfl) (by kernel_rfl) rfl rfl
          exact reg_loadRange 39 _ rfl e0 (hxa.later hH.below hab0) Tryz.underlying39 rfl (by rw [List.size_toArray, bcells_length, xL.out]; exact infNode)
        refine Flow.pass_val (.agg (bcells sd).toArray) (Flow.met_none rfl) (fun a W hH => ?_) ?_
        · have e0 := Flow.see_old 7 hH.sees (by kernel_rfl) (by kernel_rfl) rfl
          have fa1 : (fun W => Blk W (w.heap.size + 1) 39 ((bcells sd).toArray)) W := hH.fact _ (List.mem_of_getElem? (i := 1) rfl) rfl
          exact reg_load 39 _ rfl e0 fa1 Tryz.underlying39 rfl (by rw [List.size_toArray, bcells_length, sdL.out]; exact infNode)
        refine Flow.pass_val (.agg (treeAd k q).cells) (Flow.met_none rfl) (fun a W hH => ?_) ?_
        · have e0 := Flow.see_old 11 hH.sees (by kernel_rfl) (by kernel_rfl) rfl
          have fa2 : (fun W => Blk W gx 162 ((treeAd k q).cells)) W := hH.fact _ (List.mem_of_getElem? (i := 2) rfl) rfl
          exact reg_load 162 _ rfl e0 fa2 Tryz.underlying162 rfl (by exact infAdrs)
        refine Flow.pass_step (Reg.eqs (.agg (bcells S).toArray)) (fun _ _ => Flow.kept_eqs _ _) (Flow.met_none rfl) (fun a W hH => ?_) ?_
        · have e0 := Flow.see_new 36 0 hH.sees (by kernel_rfl) (by kernel_rfl) rfl rfl
          have e1 := Flow.see_new 40 4 hH.sees (by kernel_rfl) (by kernel_rfl) rfl rfl
          have e2 := Flow.see_new 41 5 hH.sees (by kernel_rfl) (by kernel_rfl) rfl rfl
          have e3 := Flow.see_new 42 6 hH.sees (by kernel_rfl) (by kernel_rfl) rfl rfl
          refine Reg.wp_call rfl Tryz.func86 rfl (by kernel_rfl) (by simp [Act.eval, e0, e1, e2, e3]) (rrand_any X x sd XL.out xL.out sdL.out (treeAd k q) hok W) ?_
          rintro e w' ⟨rfl, hB⟩
          rw [← HS.out]
          exact ⟨_, rfl, _, rfl, hB, rfl⟩
        refine Flow.pass_list (fun _ W => Blk W (w.heap.size + 3) 39 (bcells S).toArray) (Flow.kept_of (fun _ _ _ c h => h.chg c id) (Flow.kz_cons (Flow.no_follow (by kernel_rfl)) Flow.kz_nil)) (Flow.met_none rfl) (fun a W hH => ?_) ?_
        · have e0 := Flow.see_old 9 hH.sees (by kernel_rfl) (by kernel_rfl) rfl
          have e1 := Flow.see_new 43 7 hH.sees (by kernel_rfl) (by kernel_rfl) rfl rfl
          have fa3 : (fun W => Blk W (w.heap.size + 3) 39 ((bcells X).toArray)) W := hH.fact _ (List.mem_of_getElem? (i := 3) rfl) rfl
          refine wpList_storeAll W rfl 39 _ _ rfl (w.heap.size + 3) 39 _ (bcells S).toArray fa3 (by simpa [Act.eval] using e0) (by simpa [Act.eval] using e1) (by simp only [List.size_toArray, bcells_length, HSl.out, XL.out]) (by rw [List.size_toArray, bcells_length, HSl.out]; kernel_rfl) (fun v hv => bcells_one _ v (by simpa using hv)) ?_
          intro W2 h2 hg _
          exact Flow.qq_nil ⟨_, rfl, Chg.grown hg (by rintro k h; cases h; rfl), h2⟩
        refine Flow.pass_end [none, none, none, none, none, none, none, none, none, none, none, none, none, none, none, none, none, none, none, none, none, none, none, none, none, none, none, none, none, none, none, none, none, none, none, none, some 36, some 37, some 38, some 39, some 40, some 41, some 42, some 43, none, none, none, none, none, none, none, none, none, none] (by kernel_rfl) ?_
        intro f2 gg2 wA hBA hfa2 hT2 hfg2
        have h4 := hT2 8 _ (by kernel_rfl) rfl
        have F4 := hfa2 _ (List.mem_of_getElem? (i := 4) rfl) (Nat.le_refl _)
        have F5 := hfa2 _ (List.mem_of_getElem? (i := 5) rfl) (Nat.le_refl _)
        have BA := BV.drew.trans hBA
        clear hfa2 hT2 hfg2 hBA
        simp only [Reg.sel]
        go_wp2_with fail
        go_roundw
        case rel => exact ⟨k + 1, by omega, by go_num, F4, F5, by rw [Hrt.out]; exact h4, BA⟩
        case measure => simp [intOf]; omega
      ·
        obtain ⟨S, hS⟩ : ∃ S, S = randH x X sd (treeAd k q) := ⟨_, rfl⟩
        have HSl : Hid (S.length = 32) := Lib.hid (by rw [hS]; exact keyed_length _ _)
        have Hrt : Hid (rootN sd leaf idx ns (k + 1) = S) := Lib.hid (by rw [Hstep.out, if_neg (by omega), hS])
        have HS := Lib.hid hS
        clear hS
        refine Flow.wp_region_flow (w.heap.size) [(8, fun b => b = w.heap.size + 3)] [(4, fun W => Blk W (w.heap.size + 3) 39 ((bcells X).toArray)), (5, fun W => Blk W (w.heap.size + 1) 39 ((bcells sd).toArray)), (6, fun W => Blk W gx 162 ((treeAd k q).cells)), (8, fun W => Blk W (w.heap.size + 3) 39 ((bcells X).toArray)), (9, fun W => Blk W (w.heap.size + 1) 39 ((bcells sd).toArray)), (9, fun W => Blk W (w.heap.size + 2) 39 (zn))] (by kernel_rfl) (by kernel_rfl) hszV (Flow.nz_cons (by rintro b rfl; omega) Flow.nz_nil) (Flow.facts_cons (hXV.drew) (Flow.kept_blk id) (Flow.fz_cons (Flow.no_follow (by kernel_rfl)) Flow.fz_nil) (Flow.facts_cons (hSV.drew) (Flow.kept_blk id) (Flow.fz_cons (Flow.no_follow (by kernel_rfl)) Flow.fz_nil) (Flow.facts_cons (hxV.drew) (Flow.kept_blk id) (Flow.fz_cons (Flow.no_follow (by kernel_rfl)) Flow.fz_nil) (Flow.facts_cons (hXV.drew) (Flow.kept_blk id) (Flow.fz_cons (Flow.no_follow (by kernel_rfl)) Flow.fz_nil) (Flow.facts_cons (hSV.drew) (Flow.kept_blk id) (Flow.fz_cons (fun _ => Flow.kept_blk (by first | assumption | (show ¬ _ = _; first | assumption | omega | (simp; omega)) | (show ¬ (_ ≤ _); omega))) Flow.fz_nil) (Flow.facts_cons (hNV.drew) (Flow.kept_blk id) (Flow.fz_cons (fun _ => Flow.kept_blk (by first | assumption | (show ¬ _ = _; first | assumption | omega | (simp; omega)) | (show ¬ (_ ≤ _); omega))) Flow.fz_nil) Flow.facts_nil)))))) ?_
        refine Flow.pass_old (X := .slice (some ⟨ab, ao, none⟩) n c) 2 (Flow.met_none rfl) (.inl rfl) (by kernel_rfl) (by kernel_rfl) rfl ?_
        refine Flow.pass_old (X := .int .i64 (k : Nat)) 10 (Flow.met_none rfl) (.inl rfl) (by kernel_rfl) (by kernel_rfl) rfl ?_
        refine Flow.pass_val (.pointer (some ⟨ab, ao + k * 32, none⟩)) (Flow.met_none rfl) (fun a W hH => ?_) ?_
        · have e0 := Flow.see_new 44 0 hH.sees (by kernel_rfl) (by kernel_rfl) rfl rfl
          have e1 := Flow.see_new 45 1 hH.sees (by kernel_rfl) (by kernel_rfl) rfl rfl
          go_simp
        refine Flow.pass_val (.agg (bcells x).toArray) (Flow.met_none rfl) (fun a W hH => ?_) ?_
        · have e0 := Flow.see_new 46 2 hH.sees (by kernel_rfl) (by kernel_rfl) rfl rfl
          exact reg_loadRange 39 _ rfl e0 (hxa.later hH.below hab0) Tryz.underlying39 rfl (by rw [List.size_toArray, bcells_length, xL.out]; exact infNode)
        refine Flow.pass_val (.agg (bcells X).toArray) (Flow.met_none rfl) (fun a W hH => ?_) ?_
        · have e0 := Flow.see_old 9 hH.sees (by kernel_rfl) (by kernel_rfl) rfl
          have fa0 : (fun W => Blk W (w.heap.size + 3) 39 ((bcells X).toArray)) W := hH.fact _ (List.mem_of_getElem? (i := 0) rfl) rfl
          exact reg_load 39 _ rfl e0 fa0 Tryz.underlying39 rfl (by rw [List.size_toArray, bcells_length, XL.out]; exact infNode)
        refine Flow.pass_val (.agg (bcells sd).toArray) (Flow.met_none rfl) (fun a W hH => ?_) ?_
        · have e0 := Flow.see_old 7 hH.sees (by kernel_rfl) (by kernel_rfl) rfl
          have fa1 : (fun W => Blk W (w.heap.size + 1) 39 ((bcells sd).toArray)) W := hH.fact _ (List.mem_of_getElem? (i := 1) rfl) rfl
          exact reg_load 39 _ rfl e0 fa1 Tryz.underlying39 rfl (by rw [List.size_toArray, bcells_length, sdL.out]; exact infNode)
        refine Flow.pass_val (.agg (treeAd k q).cells) (Flow.met_none rfl) (fun a W hH => ?_) ?_
        · have e0 := Flow.see_old 11 hH.sees (by kernel_rfl) (by kernel_rfl) rfl
          have fa2 : (fun W => Blk W gx 162 ((treeAd k q).cells)) W := hH.fact _ (List.mem_of_getElem? (i := 2) rfl) rfl
          exact reg_load 162 _ rfl e0 fa2 Tryz.underlying162 rfl (by exact infAdrs)
        refine Flow.pass_step (Reg.eqs (.agg (bcells S).toArray)) (fun _ _ => Flow.kept_eqs _ _) (Flow.met_none rfl) (fun a W hH => ?_) ?_
        · have e0 := Flow.see_new 47 3 hH.sees (by kernel_rfl) (by kernel_rfl) rfl rfl
          have e1 := Flow.see_new 48 4 hH.sees (by kernel_rfl) (by kernel_rfl) rfl rfl
          have e2 := Flow.see_new 49 5 hH.sees (by kernel_rfl) (by kernel_rfl) rfl rfl
          have e3 := Flow.see_new 50 6 hH.sees (by kernel_rfl) (by kernel_rfl) rfl rfl
          refine Reg.wp_call rfl Tryz.func86 rfl (by kernel_rfl) (by simp [Act.eval, e0, e1, e2, e3]) (rrand_any x X sd xL.out XL.out sdL.out (treeAd k q) hok W) ?_
          rintro e w' ⟨rfl, hB⟩
          rw [← HS.out]
          exact ⟨_, rfl, _, rfl, hB, rfl⟩
        refine Flow.pass_list (fun _ W => Blk W (w.heap.size + 3) 39 (bcells S).toArray) (Flow.kept_of (fun _ _ _ c h => h.chg c id) (Flow.kz_cons (Flow.no_follow (by kernel_rfl)) Flow.kz_nil)) (Flow.met_none rfl) (fun a W hH => ?_) ?_
        · have e0 := Flow.see_old 9 hH.sees (by kernel_rfl) (by kernel_rfl) rfl
          have e1 := Flow.see_new 51 7 hH.sees (by kernel_rfl) (by kernel_rfl) rfl rfl
          have fa3 : (fun W => Blk W (w.heap.size + 3) 39 ((bcells X).toArray)) W := hH.fact _ (List.mem_of_getElem? (i := 3) rfl) rfl
          refine wpList_storeAll W rfl 39 _ _ rfl (w.heap.size + 3) 39 _ (bcells S).toArray fa3 (by simpa [Act.eval] using e0) (by simpa [Act.eval] using e1) (by simp only [List.size_toArray, bcells_length, HSl.out, XL.out]) (by rw [List.size_toArray, bcells_length, HSl.out]; kernel_rfl) (fun v hv => bcells_one _ v (by simpa using hv)) ?_
          intro W2 h2 hg _
          exact Flow.qq_nil ⟨_, rfl, Chg.grown hg (by rintro k h; cases h; rfl), h2⟩
        refine Flow.pass_end [none, none, none, none, none, none, none, none, none, none, none, none, none, none, none, none, none, none, none, none, none, none, none, none, none, none, none, none, none, none, none, none, none, none, none, none, none, none, none, none, none, none, none, none, some 44, some 45, some 46, some 47, some 48, some 49, some 50, some 51, none, none] (by kernel_rfl) ?_
        intro f2 gg2 wA hBA hfa2 hT2 hfg2
        have h4 := hT2 8 _ (by kernel_rfl) rfl
        have F4 := hfa2 _ (List.mem_of_getElem? (i := 4) rfl) (Nat.le_refl _)
        have F5 := hfa2 _ (List.mem_of_getElem? (i := 5) rfl) (Nat.le_refl _)
        have BA := BV.drew.trans hBA
        clear hfa2 hT2 hfg2 hBA
        simp only [Reg.sel]
        go_wp2_with fail
        go_roundw
        case rel => exact ⟨k + 1, by omega, by go_num, F4, F5, by rw [Hrt.out]; exact h4, BA⟩
        case measure => simp [intOf]; omega
    · obtain rfl : k = n := by omega
      go_wp2_with (first
        | ((with_reducible refine at_load 39 ?_); refine wpList_loadAll _ rfl 39 _ rfl (w.heap.size + 3) 39 (bcells X).toArray hI.X _ rfl Tryz.underlying39 rfl (by rw [List.size_toArray, bcells_length, XL.out]; kernel_rfl) ?_)
        | ((with_reducible refine at_store 39 ?_); refine wpList_storeAll _ rfl 39 _ _ rfl (w.heap.size + 2) 39 _ (bcells X).toArray hI.N rfl rfl (by rw [List.size_toArray, bcells_length, XL.out]; kernel_rfl) (by rw [List.size_toArray, bcells_length, XL.out]; kernel_rfl) (fun v hv => bcells_one _ v (by simpa using hv)) ?_; intro w5 h5 hg5 hs5))
      refine bodyPost_ret (results_cell_row rfl _ _ (w.heap.size + 2) _ _ _ _ rfl h5 Tryz.underlying39 rfl (by rw [List.size_toArray, bcells_length, XL.out]; kernel_rfl)) rfl ⟨by rw [hX], ?_⟩
      exact grown_below hI.B hg5 hI.B.size (by omega)
end Go.Proofs.YtipdmhppadapkaaGreatDoor
/-
  Walks: both Roots at any neighbours; the law of chapter 07 is awake; the law LtreeRoots.
-/
namespace Go.Proofs.YtipdmhppadapkaaGreatDoor
open Go.RowKit Sha

set_option maxRecDepth 100000 in
set_option maxHeartbeats 2000000 in
theorem roots_bad (leaf : Nd) (idx : Int) (A : Option Addr) (n c : Nat) (hn : 32 < n) (sd : Nd) (w : World) :
    (Calls Tryz.prog 80 #[.agg (bcells leaf).toArray, .int .u32 idx, .slice A n c, .agg (bcells sd).toArray] w fun e w' => e = .returned (.agg (bcells znode).toArray) ∧ Below w.heap.size w w') ∧
    (Calls Tryz.prog 46 #[.agg (bcells leaf).toArray, .int .u32 idx, .slice A n c, .agg (bcells sd).toArray] w fun e w' => e = .returned (.agg (bcells znode).toArray) ∧ Below w.heap.size w w') := by
  have hz := zeroNode
  have hnn : (32 : Int) < (n : Int) := by omega
  have hN := blk_new2 w (.cells (bcells leaf).toArray 39) (.cells (bcells sd).toArray 39) 39 zn
  have B0 : Below w.heap.size w (((w.alloc (.cells (bcells leaf).toArray 39)).alloc (.cells (bcells sd).toArray 39)).alloc (.cells zn 39)) := (((Below.refl _ _).alloc (Nat.le_refl _) _).alloc (by simp) _).alloc (by simp; omega) _
  have hzs : Hid (zn.size = 32) := Lib.hid (by kernel_rfl)
  have hone : Hid (∀ v ∈ zn.toList, v.oneCell' = true) := Lib.hid (fun v hv => bcells_one znode v (by simpa [zn] using hv))
  constructor
  · go_enter Tryz.func80, Tryz.ntmps80
    go_wp2_with ((with_reducible refine at_store 39 ?_); refine wpList_storeAll _ rfl 39 _ _ rfl (w.heap.size + 2) 39 _ zn hN rfl rfl rfl (by rw [hzs.out]; exact infNode) hone.out ?_; intro w5 h5 hg5 hs5)
    refine bodyPost_ret (results_cell_row rfl _ _ (w.heap.size + 2) _ _ _ _ rfl h5 Tryz.underlying39 rfl (by rw [hzs.out]; exact infNode)) rfl ⟨rfl, ?_⟩
    exact grown_below B0 hg5 B0.size (by omega)
  · go_enter Tryz.func46, Tryz.ntmps46
    go_wp2_with ((with_reducible refine at_store 39 ?_); refine wpList_storeAll _ rfl 39 _ _ rfl (w.heap.size + 2) 39 _ zn hN rfl rfl rfl (by rw [hzs.out]; exact infNode) hone.out ?_; intro w5 h5 hg5 hs5)
    refine bodyPost_ret (results_cell_row rfl _ _ (w.heap.size + 2) _ _ _ _ rfl h5 Tryz.underlying39 rfl (by rw [hzs.out]; exact infNode)) rfl ⟨rfl, ?_⟩
    exact grown_below B0 hg5 B0.size (by omega)

theorem mroot_any (leaf : Nd) (hleaf : leaf.length = 32) (idx : Nat) (hidx : idx < 4294967296) (A : Option Addr) (n c : Nat) (ns : List Nd) (hn : n = ns.length) (h32 : All32 ns) (sd : Nd) (hsd : sd.length = 32) (w : World) (hR : Rd w w.heap.size 32 A n (ncells ns)) (hT : Tabs w) :
    Calls Tryz.prog 80 #[.agg (bcells leaf).toArray, .int .u32 (idx : Int), .slice A n c, .agg (bcells sd).toArray] w fun e w' => e = .returned (.agg (bcells (rootV sd leaf idx ns)).toArray) ∧ Below w.heap.size w w' := by
  unfold rootV
  rw [← hn]
  split
  · exact (roots_bad leaf idx A n c (by assumption) sd w).1
  · exact mroot_in leaf hleaf idx hidx A n c ns hn h32 (by omega) sd hsd w hR hT
theorem rroot_any (leaf : Nd) (hleaf : leaf.length = 32) (idx : Nat) (hidx : idx < 4294967296) (A : Option Addr) (n c : Nat) (ns : List Nd) (hn : n = ns.length) (h32 : All32 ns) (sd : Nd) (hsd : sd.length = 32) (w : World) (hR : Rd w w.heap.size 32 A n (ncells ns)) :
    Calls Tryz.prog 46 #[.agg (bcells leaf).toArray, .int .u32 (idx : Int), .slice A n c, .agg (bcells sd).toArray] w fun e w' => e = .returned (.agg (bcells (rootV sd leaf idx ns)).toArray) ∧ Below w.heap.size w w' := by
  unfold rootV
  rw [← hn]
  split
  · exact (roots_bad leaf idx A n c (by assumption) sd w).2
  · exact rroot_in leaf hleaf idx hidx A n c ns hn h32 (by omega) sd hsd w hR

end Go.Proofs.YtipdmhppadapkaaGreatDoor
/-
  Walk: the law LtreeSplits.
-/
namespace Go.Proofs.YtipdmhppadapkaaGreatDoor
open Go.RowKit Sha

end Go.Proofs.YtipdmhppadapkaaGreatDoor
