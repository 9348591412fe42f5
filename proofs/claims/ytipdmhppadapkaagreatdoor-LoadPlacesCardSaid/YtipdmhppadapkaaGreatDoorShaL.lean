/-
  From the row's condition: SHA's tables lie as they were laid.
-/
import Derived.Test.YtipdmhppadapkaaGreatDoorBB
import Derived.Test.YtipdmhppadapkaaGreatDoorRows
import Derived.ProofKit
import Derived.LaidMore
import Derived.OpenShut
import Derived.Stop.Joined
namespace Go.Proofs.YtipdmhppadapkaaGreatDoor
open Go.ChangeShapes Go.WideShapes Go.ChangeAt Go.RowKit Sha

theorem ints_trod {H : Type} {P : Program} {enc : TypeId × Value → H} {w : World} {base : Nat} {spare : Nat → Bool} {held : Bool} {fuel : Nat} {t e : TypeId} {n : Nat} {k : IntKind} {cs : List Value} {x : DataW H × List MemPlace}
    (hu : P.underlying t = some (.array n e)) (he : P.underlying e = some (.int k)) (hC : P.cellsOf e = 1) (hN : P.cellsOf t = n) (h : DataW.trod enc P w base spare held fuel t cs = some x) :
    ∃ zs : List Int, cs = zs.map (fun z => Value.int k z) ∧ x.1 = .agg (zs.map fun z => .lit (.int k z)) := by
  obtain ⟨xs, m, rfl, rfl, hlen, hxl, hel⟩ := DataW.trod_array hu h
  rw [hN] at hlen
  have hz : ∀ i (hi : i < n), ∃ z, cs[i]'(by omega) = .int k z ∧ (xs[i]'(by omega)).1 = .lit (.int k z) := by
    intro i hi
    have h1 := hel i hi
    rw [hC, Nat.mul_one, List.getElem?_eq_getElem (by omega)] at h1
    obtain ⟨z, e1, e2, _⟩ := DataW.trod_int he h1
    rw [List.drop_eq_getElem_cons (by omega)] at e1
    simp only [List.take_succ_cons, List.take_zero, List.cons.injEq, and_true] at e1
    exact ⟨z, e1, by rw [e2]⟩
  refine ⟨cs.map fun v => match v with | .int _ z => z | _ => 0, ?_, ?_⟩
  · apply List.ext_getElem
    · simp
    · intro i h1 h2
      obtain ⟨z, e1, _⟩ := hz i (by omega)
      simp [e1]
  · show DataW.agg _ = _
    congr 1
    apply List.ext_getElem
    · simp; omega
    · intro i h1 h2
      obtain ⟨z, e1, e2⟩ := hz i (by simp at h1; omega)
      simp [e1, e2]
theorem lits_inj {H : Type} {k : IntKind} (a b : List Int) (h : (DataW.agg (a.map fun z => (.lit (.int k z) : DataW H)) : DataW H) = .agg (b.map fun z => .lit (.int k z))) : a = b := by
  simp only [DataW.agg.injEq] at h
  exact (List.map_inj_right (fun x y e => by simpa using e)).1 h

theorem gFirst : Tryz.prog.globalNamed "portreeve/sha.first" = some 0 := by kernel_rfl
theorem gRounds : Tryz.prog.globalNamed "portreeve/sha.rounds" = some 1 := by kernel_rfl
theorem tFirst : (Tryz.prog.globals[0]?).map (·.type) = some 110 := by kernel_rfl
theorem tRounds : (Tryz.prog.globals[1]?).map (·.type) = some 167 := by kernel_rfl
theorem var_blk {P : Program} {W : World} {nm : String} {g : Nat} {cs : Array Value} (hg : P.globalNamed nm = some g) (hv : W.var? P nm = some cs) : ∃ t f, W.heap[g]? = some (.cells cs t f) := by
  unfold World.var? at hv
  rw [hg] at hv
  simp only [Option.bind_some] at hv
  split at hv
  · rename_i c t f hh
    cases hv
    exact ⟨_, _, hh⟩
  · cases hv

abbrev laidL : List (String × DataW Unit) := [("portreeve/sha.first", Rows.laid_portreeve_sha_first), ("portreeve/sha.rounds", Rows.laid_portreeve_sha_rounds)]
theorem tabs_of {W : World} (h : laidMetH Tryz.prog laidL W) : Tabs W := by
  rw [MakeChecks.laidMetH_plain _ _ _ (by kernel_rfl)] at h
  obtain ⟨ps, ⟨g0, t0, cs0, f0, p0, q0, hg0, ht0, hv0, hd0, ⟨g1, t1, cs1, f1, p1, q1, hg1, ht1, hv1, hd1, _, hq⟩, hps⟩, _, hrow⟩ := h
  obtain rfl := Option.some.inj (gFirst.symm.trans hg0)
  obtain rfl := Option.some.inj (gRounds.symm.trans hg1)
  obtain rfl := Option.some.inj (tFirst.symm.trans ht0)
  obtain rfl := Option.some.inj (tRounds.symm.trans ht1)
  obtain ⟨z0, e0, d0⟩ := ints_trod Tryz.underlying110 Tryz.underlying23 (by kernel_rfl) (by kernel_rfl) hd0
  obtain ⟨z1, e1, d1⟩ := ints_trod Tryz.underlying167 Tryz.underlying23 (by kernel_rfl) (by kernel_rfl) hd1
  have k0 : z0 = h0.list.map u := lits_inj _ _ (d0.symm.trans (by kernel_rfl))
  have k1 : z1 = kTab.map u := lits_inj _ _ (d1.symm.trans (by kernel_rfl))
  have c0 : cs0 = (wcells h0.list).toArray := by
    apply Array.toList_inj.1
    rw [e0, k0]; simp [wcells]
  have c1 : cs1 = (wcells kTab).toArray := by
    apply Array.toList_inj.1
    rw [e1, k1]; simp [wcells]
  subst c0 c1
  have in0 : MemPlace.cell 0 0 ∈ ps := by
    rw [hps]
    exact List.mem_append_left _ (List.mem_append_left _ (List.mem_map.2 ⟨0, List.mem_range.2 (by rw [List.size_toArray, wcells_length]; exact Nat.succ_pos _), rfl⟩))
  have in1 : MemPlace.cell 1 0 ∈ ps := by
    rw [hps, hq]
    exact List.mem_append_right _ (List.mem_append_left _ (List.mem_append_left _ (List.mem_map.2 ⟨0, List.mem_range.2 (by rw [List.size_toArray, wcells_length]; exact Nat.succ_pos _), rfl⟩)))
  obtain ⟨t0, f0, hb0⟩ := var_blk gFirst hv0
  obtain ⟨t1, f1, hb1⟩ := var_blk gRounds hv1
  obtain ⟨⟨c, t, hr0⟩, _⟩ := hrow _ _ in0
  obtain ⟨⟨c', t', hr1⟩, _⟩ := hrow _ _ in1
  rw [hb0] at hr0
  rw [hb1] at hr1
  cases hr0
  cases hr1
  exact ⟨⟨_, hb0⟩, ⟨_, hb1⟩⟩
/-- the door's own heap meets the condition -/
theorem door_met (os : Os) (args : Array Value) : laidMetH Tryz.prog laidL ((World.doorLaid Tryz.prog 400 os).forCall (fun _ _ => 0) ⟨#[], args, []⟩).memory :=
  laidMetH_of_parts3 (fuel := 8) (laidMet_of_run' 8 (by kernel_rfl) (by kernel_rfl)) (by kernel_rfl) (by kernel_rfl)
end Go.Proofs.YtipdmhppadapkaaGreatDoor
