/-
  Walk: portreeveref04.SameNodes.
-/
import Derived.Test.YtnjfghlgknnhmaaEq
import Derived.Test.YtnjfghlgknnhmaaOwn
import Derived.Test.YtnjfghlgknnhmaaFlow
import Derived.Test.YtnjfghlgknnhmaaStore
import Derived.Deep.Cut
namespace Go.Proofs.Ytnjfghlgknnhmaa
open Go.RowKit

theorem rangeAt_later {w w' : World} {B b off : Nat} {cs : List Value} (h : w.rangeAt b off cs) (hB : Below B w w') (hb : b < B) : w'.rangeAt b off cs := fun j v hv => (hB.cell (p := ⟨b, off + j, none⟩) hb).trans (h j v hv)
theorem _root_.Go.World.rangeAt.later {w w' : World} {B b off : Nat} {cs : List Value} (h : w.rangeAt b off cs) (hB : Below B w w') (hb : b < B) : w'.rangeAt b off cs := rangeAt_later h hB hb
theorem range_node {w : World} {b off : Nat} {ns : List (List UInt8)} (h : w.rangeAt b off (ncells ns)) (hl : ∀ x ∈ ns, x.length = 32) (k : Nat) (hk : k < ns.length) : w.rangeAt b (off + k * 32) (bcells ns[k]) := by
  intro j v hv
  have e := ncells_get ns hl k hk
  have hj : j < 32 := by have := (List.getElem?_eq_some_iff.1 hv).1; rw [bcells_length, hl _ (List.getElem_mem hk)] at this; exact this
  rw [← e, List.getElem?_take, if_pos hj, List.getElem?_drop] at hv
  have := h _ v hv
  rw [show off + (k * 32 + j) = off + k * 32 + j by omega] at this
  exact this
theorem reg_loadRange {P : Program} {o : Oper} {a : Act} {w : World} (ty : TypeId) (t : Tmp) (ho : o.op = .load ty (.tmp t)) {b off : Nat} {cs : List Value} (he : a.tmps[t]?.getD undef = .pointer (some ⟨b, off, none⟩))
    (h : w.rangeAt b off cs) {d : TypeDesc} (hu : P.underlying ty = some d) (hd : d.isRow = true) (hi : (P.info? ty).map (·.size) = some cs.toArray.size) :
    (execOp a.eval o).run P w = .ok (.value (.agg cs.toArray)) w := by
  have := run_loadAt_mid (P := P) w b off ty cs d h hu hd (by simpa using hi)
  simp [execOp, ho, Act.eval, he, this]

set_option maxRecDepth 100000 in
set_option maxHeartbeats 2000000 in
theorem sameNodes_any (A1 A2 : Option Addr) (n1 c1 n2 c2 : Nat) (p q : List (List UInt8)) (hp : ∀ x ∈ p, x.length = 32) (hq : ∀ x ∈ q, x.length = 32) (w : World)
    (h1 : Rd w w.heap.size 32 A1 n1 (ncells p)) (h2 : Rd w w.heap.size 32 A2 n2 (ncells q)) (hn : n1 ≤ 1000000) (hn2 : n2 ≤ 1000000) :
    Calls Try.prog 53 #[.slice A1 n1 c1, .slice A2 n2 c2] w fun e w' => e = .returned (.bool (p == q)) ∧ Below w.heap.size w w' := by
  have l1 : p.length = n1 := by have := h1.len; rw [ncells_length _ hp] at this; omega
  have l2 : q.length = n2 := by have := h2.len; rw [ncells_length _ hq] at this; omega
  have HL1 := Lib.hid l1
  have HL2 := Lib.hid l2
  clear l1 l2
  by_cases hne : n1 = n2
  · subst hne
    go_enter Try.func53, Try.ntmps53
    go_wp2_with fail
    go_loopw [13] (fun i wr => ∃ k : Nat, k ≤ n1 ∧ i = .int .i64 k ∧ p.take k = q.take k ∧ Below w.heap.size w wr) (fun i _ => n1 - (intOf i).toNat)
    case atStart => exact ⟨0, Nat.zero_le _, rfl, rfl, Below.refl _ _⟩
    case round =>
      obtain ⟨i, hi, rfl, heq, B9⟩ := hrel
      have HEQ := Lib.hid heq
      clear heq
      by_cases hlt : i < n1
      · obtain ⟨b1, o1, rfl, hb1, hr1⟩ := h1.range (by omega)
        obtain ⟨b2, o2, rfl, hb2, hr2⟩ := h2.range (by omega)
        have hip : i < p.length := by rw [HL1.out]; exact hlt
        have hiq : i < q.length := by rw [HL2.out]; exact hlt
        have hr1 := ((range_node hr1 hp i hip).later B9 hb1)
        have hr2 := ((range_node hr2 hq i hiq).later B9 hb2)
        have hw9 := B9.size
        have xL : Hid (p[i].length = 32) := Lib.hid (hp _ (List.getElem_mem hip))
        have yL : Hid (q[i].length = 32) := Lib.hid (hq _ (List.getElem_mem hiq))
        have hpq : Hid (p[i] = q[i] → p.take (i + 1) = q.take (i + 1)) := Lib.hid fun e => by
          rw [List.take_succ_eq_append_getElem hip, List.take_succ_eq_append_getElem hiq, HEQ.out, e]
        have hpq2 : Hid (p[i] ≠ q[i] → (p == q) = false) := Lib.hid fun e => by
          rw [beq_eq_false_iff_ne]; rintro rfl; exact e rfl
        generalize p[i] = x at *
        generalize q[i] = y at *
        have hb1 : b1 < wr.heap.size := by omega
        have hb2 : b2 < wr.heap.size := by omega
        have hr1 : wr.drew.rangeAt b1 (o1 + i * 32) (bcells x) := hr1
        have hr2 : wr.drew.rangeAt b2 (o2 + i * 32) (bcells y) := hr2
        have hne := fun W => nodeNe x y xL.out yL.out W
        clear h1 h2
        go_wp2_with fail
        refine Flow.wp_region_flow (wr.drew.heap.size) [] [] (by kernel_rfl) (by kernel_rfl) (Nat.le_refl _) (fun _ h => by cases h) Flow.facts_nil ?_
        refine Flow.pass_old (X := .slice (some ⟨b1, o1, none⟩) n1 c1) 0 (Flow.met_none rfl) (.inl rfl) (by kernel_rfl) (by kernel_rfl) rfl ?_
        refine Flow.pass_old (X := .int .i64 (i : Nat)) 5 (Flow.met_none rfl) (.inl rfl) (by kernel_rfl) (by kernel_rfl) rfl ?_
        refine Flow.pass_val (.pointer (some ⟨b1, o1 + i * 32, none⟩)) (Flow.met_none rfl) (fun a W hH => ?_) ?_
        · have e0 := Flow.see_new 16 0 hH.sees (by kernel_rfl) (by kernel_rfl) rfl rfl
          have e1 := Flow.see_new 17 1 hH.sees (by kernel_rfl) (by kernel_rfl) rfl rfl
          go_simp
        refine Flow.pass_val (.agg (bcells x).toArray) (Flow.met_none rfl) (fun a W hH => ?_) ?_
        · have e0 := Flow.see_new 18 2 hH.sees (by kernel_rfl) (by kernel_rfl) rfl rfl
          exact reg_loadRange 29 _ rfl e0 (hr1.later hH.below hb1) Try.underlying29 rfl (by rw [List.size_toArray, bcells_length, xL.out]; exact infNode)
        refine Flow.pass_old (X := .slice (some ⟨b2, o2, none⟩) n1 c2) 1 (Flow.met_none rfl) (.inl rfl) (by kernel_rfl) (by kernel_rfl) rfl ?_
        refine Flow.pass_old (X := .int .i64 (i : Nat)) 5 (Flow.met_none rfl) (.inl rfl) (by kernel_rfl) (by kernel_rfl) rfl ?_
        refine Flow.pass_val (.pointer (some ⟨b2, o2 + i * 32, none⟩)) (Flow.met_none rfl) (fun a W hH => ?_) ?_
        · have e0 := Flow.see_new 20 4 hH.sees (by kernel_rfl) (by kernel_rfl) rfl rfl
          have e1 := Flow.see_new 21 5 hH.sees (by kernel_rfl) (by kernel_rfl) rfl rfl
          go_simp
        refine Flow.pass_val (.agg (bcells y).toArray) (Flow.met_none rfl) (fun a W hH => ?_) ?_
        · have e0 := Flow.see_new 22 6 hH.sees (by kernel_rfl) (by kernel_rfl) rfl rfl
          exact reg_loadRange 29 _ rfl e0 (hr2.later hH.below hb2) Try.underlying29 rfl (by rw [List.size_toArray, bcells_length, yL.out]; exact infNode)
        refine Flow.pass_val (.bool (!(x == y))) (Flow.met_none rfl) (fun a W hH => ?_) ?_
        · have e0 := Flow.see_new 19 3 hH.sees (by kernel_rfl) (by kernel_rfl) rfl rfl
          have e1 := Flow.see_new 23 7 hH.sees (by kernel_rfl) (by kernel_rfl) rfl rfl
          have hne := hne W; go_simp
        refine Flow.pass_end [none, none, none, none, none, none, none, none, none, none, none, none, none, none, none, none, some 16, some 17, some 18, some 19, some 20, some 21, some 22, some 23, some 24, none] (by kernel_rfl) ?_
        intro f g w9 hB hfa hT hfg
        have h24 : f 24 = _ := (hfg 24 8 (by kernel_rfl)).trans (hT 8 _ (by kernel_rfl) rfl)
        have B10 := (B9.drew).trans (hB.mono hw9)
        simp only [Reg.sel, h24]
        clear hT hfg hfa hB h24 hr1 hr2 hne
        by_cases hxy : x = y
        · have e1 : (!(x == y)) = false := by simp [hxy]
          rw [e1]
          have e2 := hpq.out hxy
          have E2 := Lib.hid e2
          clear e2 e1 hxy
          go_wp2
          go_roundw
          case rel => exact ⟨i + 1, by omega, by go_num, E2.out, B10⟩
          case measure => simp [intOf]; omega
        · have e1 : (!(x == y)) = true := by simp [hxy]
          rw [e1]
          have E2 := Lib.hid (hpq2.out hxy)
          clear e1 hxy
          go_wp2
          go_ret
          exact ⟨by rw [E2.out]; rfl, B10⟩
      · obtain rfl : i = n1 := by omega
        go_wp2
        go_ret
        have e := HEQ.out
        rw [List.take_of_length_le (by rw [HL1.out]; exact Nat.le_refl _), List.take_of_length_le (by rw [HL2.out]; exact Nat.le_refl _)] at e
        exact ⟨by rw [e]; simp, B9⟩
  · have he : (p == q) = false := by
      rw [beq_eq_false_iff_ne]
      rintro rfl
      exact hne (HL1.out.symm.trans HL2.out)
    rw [he]
    have hni : ¬ (n1 : Int) = (n2 : Int) := by omega
    go_enter Try.func53, Try.ntmps53
    go_wp2
    go_ret
    exact ⟨rfl, Below.refl _ _⟩

end Go.Proofs.Ytnjfghlgknnhmaa
