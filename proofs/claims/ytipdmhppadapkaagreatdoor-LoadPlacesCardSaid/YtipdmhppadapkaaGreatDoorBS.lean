/-
  Parts: SrtA SrtB SrtC SrtD SrtE SrtF.
-/
import Derived.Test.YtipdmhppadapkaaGreatDoorBA
import Derived.Sort.AssemblyPlain
import Derived.Deep.Cut
/-
  The library's sort at uint64: the row, what is handed back, Less; laws for one operation.
-/
namespace Go.Proofs.YtipdmhppadapkaaGreatDoor
open Go.RowKit

def ltN (x y : Nat) : Bool := decide (x < y)
theorem swoN : Sort.SWO ltN := ⟨fun x => by simp [ltN], fun x y z h1 h2 => by simp [ltN] at *; omega, fun x y z h1 h2 => by simp [ltN] at *; omega⟩
def ucells (l : List Nat) : List Value := l.map fun x : Nat => Value.int .u64 ((x : Nat) : Int)
theorem ucells_length (l : List Nat) : (ucells l).length = l.length := by simp [ucells]
/-- block g holds d, and R behind it -/
abbrev NR (w : World) (g : Nat) (d : Array Nat) (R : List Value) : Prop := Blk w g 24 (ucells d.toList ++ R).toArray
theorem nr_cell {w : World} {g : Nat} {d : Array Nat} {R : List Value} (h : NR w g d R) (i : Nat) (hi : i < d.size) : w.cell? ⟨g, i, none⟩ = some (.int .u64 ((d[i]! : Nat) : Int)) := by
  have h2 : Blk w g 24 (ucells d.toList ++ R).toArray := h
  have hi2 : i < d.toList.length := by simpa using hi
  rw [h2.cell, List.getElem?_toArray, List.getElem?_append_left (by rw [ucells_length]; exact hi2)]
  simp [ucells, hi]
theorem nr_set {w : World} {g : Nat} {d : Array Nat} {R : List Value} (h : NR w g d R) (i : Nat) (hi : i < d.size) (x : Nat) : NR (w.setCell ⟨g, i, none⟩ (.int .u64 (x : Int))) g (d.setIfInBounds i x) R := by
  have h2 := Blk.set_ (show Blk w g 24 (ucells d.toList ++ R).toArray from h) i (.int .u64 (x : Int))
  have e : (ucells d.toList ++ R).toArray.setIfInBounds i (.int .u64 (x : Int)) = (ucells (d.setIfInBounds i x).toList ++ R).toArray := by
    rw [List.setIfInBounds_toArray, List.set_append_left _ _ (by rw [ucells_length]; simpa using hi)]
    simp [ucells, List.map_set]
  rw [e] at h2
  exact h2
theorem nr_size {d : Array Nat} {R : List Value} {i : Nat} (hi : i < d.size) : i < (ucells d.toList ++ R).toArray.size := by
  rw [List.size_toArray, List.length_append, ucells_length]
  have : d.toList.length = d.size := by simp
  omega
def OnlyG (g : Nat) : Nat → Prop := fun b => b = g
/-- what a sorting function hands back -/
def SRet (w : World) (g : Nat) (R : List Value) (Q : Array Nat → Prop) (e : Ending) (w' : World) : Prop := e = .returned (.tuple #[]) ∧ ∃ d', Q d' ∧ NR w' g d' R ∧ Chg (OnlyG g) w w'

theorem s_ixS {P : Program} {o : Oper} {a : Act} {w : World} {t e : TypeId} {x ix : Operand} {g off n c s : Nat} {k : IntKind} {z : Int} (i q : Nat) (ho : o.op = .indexAddr t x ix) (hu : P.underlying t = some (.slice e)) (hs : (P.info? e).map (·.size) = some s)
    (hx : a.eval x = .slice (some ⟨g, off, none⟩) n c) (hix : a.eval ix = .int k z) (hz : z = (i : Int)) (hi : i < n) (hq : q = off + i * s) : (execOp a.eval o).run P w = .ok (.value (.pointer (some ⟨g, q, none⟩))) w := by
  have hu' : P.underlying t = some (.slice (P.elem t)) := by simp [Program.elem, hu]
  obtain ⟨inf, hinf, hsz⟩ := Option.map_eq_some_iff.1 hs
  have he : P.elem t = e := by simp [Program.elem, hu]
  have hr := run_indexAt_slice (P := P) w t ⟨g, off, none⟩ n c k z hu'
  have hS : (sizeOf e).run P w = .ok s w := by simp [sizeOf, typeInfo, hinf, hsz]
  rw [he, if_pos (by omega), hS] at hr
  simp only [Result.andThen_ok, hz, Int.toNat_natCast, Addr.add_mid] at hr
  subst hq
  simp [execOp, ho, hx, hix, hz, hr]
theorem s_store {P : Program} {o : Oper} {a : Act} {w : World} {ty : TypeId} {x y : Tmp} (ho : o.op = .store ty (.tmp x) (.tmp y)) (hi : (P.info? ty).map (·.size) = some 1) {g off : Nat} {t : TypeId} {cs : Array Value} {k : IntKind} {z : Int} (hb : Blk w g t cs)
    (hx : a.tmps[x]?.getD undef = .pointer (some ⟨g, off, none⟩)) (hy : a.tmps[y]?.getD undef = .int k z) (hoff : off < cs.size) : (execOp a.eval o).run P w = .ok .skip (w.setCell ⟨g, off, none⟩ (.int k z)) := by
  have hc := hb.cell off
  rw [Array.getElem?_eq_getElem hoff] at hc
  have hf := hb.frozen off
  obtain ⟨i, hinf, hsz⟩ := Option.map_eq_some_iff.1 hi
  have hs : (sizeOf ty).run P w = .ok 1 w := by simp [sizeOf, typeInfo, hinf, hsz]
  simp [execOp, ho, Act.eval, hx, hy, Instr.storeAt, storeCells, Value.cells, hs, go_sem, hc, hf]
theorem s_skip {P : Program} {o : Oper} {a : Act} {w w' : World} {K : Act → World → Prop} {Q : Exit → Act → World → Prop} (h : (execOp a.eval o).run P w = .ok .skip w') (hK : K (a.put o.dst undef) w') : Flow.OpWp P o a w K Q := by
  refine .inl ?_
  unfold Oper.wp
  rw [h]
  exact hK
theorem s_grown (w : World) (g k' : Nat) (v : Value) : w.grownBy (w.setCell ⟨g, k', none⟩ v) (some g) := ⟨rfl, rfl, rfl, by simp, fun k _ hk => heap_setCell_other w ⟨g, k', none⟩ k v (fun e => hk (by simp [e]))⟩
/-- the frame, kept by a store into the row -/
theorem onlyg_trans {g : Nat} {Z : Nat → Prop} {a b c : World} (h : Chg (OnlyG g) a b) (k : Chg Z b c) (hZ : ∀ j, Z j → j = g) : Chg (OnlyG g) a c := h.trans (k.mono hZ)

theorem swp_size (d : Array Nat) (i j : Nat) : (Sort.swp d i j).size = d.size := by simp [Sort.swp]
/-- a region whose ways join behind it -/
theorem s_cut {P : Program} {id : Nat} {ops : Array Oper} {Q : Exit → Act → World → Prop} {a0 : Act} {w0 : World} (M : List (Option Tmp)) (prop : (Tmp → Value) → World → Prop)
    (first : ∀ Q' : Exit → Act → World → Prop, (∀ f w, prop f w → Q' .normal ⟨(Reg.sel f M a0.tmps.toList).toArray, a0.defers⟩ w) → (Code.region id ops true).wp P Q' a0 w0)
    (rest : ∀ f w, prop f w → Q .normal ⟨(Reg.sel f M a0.tmps.toList).toArray, a0.defers⟩ w) : (Code.region id ops true).wp P Q a0 w0 := first Q rest

set_option maxRecDepth 100000 in
theorem lessN (x y : Nat) (w : World) : Calls Tryz.prog 162 #[.int .u64 (x : Int), .int .u64 (y : Int)] w fun e w' => e = .returned (.bool (ltN x y)) ∧ w' = w := by
  have hn : ∀ (z : Int) (W : World), Calls Tryz.prog 180 #[.int .u64 z] W fun e w' => e = .returned (.bool false) ∧ w' = W := by
    intro z W
    go_enter Tryz.func180, Tryz.ntmps180
    go_wp2
    go_ret
    exact ⟨by simp, rfl⟩
  have hx := hn (x : Int) w
  clear hn
  go_enter Tryz.func162, Tryz.ntmps162
  go_wp2_with fail
  refine Calls.mono hx ?_
  rintro e w' ⟨rfl, rfl⟩
  go_wp2
  go_ret
  exact ⟨by simp [ltN], rfl⟩
end Go.Proofs.YtipdmhppadapkaaGreatDoor
/-
  Walk: slices.insertionSortOrdered at uint64.
-/
namespace Go.Proofs.YtipdmhppadapkaaGreatDoor
open Go.RowKit

theorem insInner_step {lo m : Nat} {d : Array Nat} (h : lo < m) (hq : ltN d[m]! d[m - 1]! = true) : Sort.insInner ltN lo m d = Sort.insInner ltN lo (m - 1) (Sort.swp d m (m - 1)) := by
  obtain ⟨j, rfl⟩ : ∃ j, m = j + 1 := ⟨m - 1, by omega⟩
  rw [Nat.add_sub_cancel] at *
  rw [Sort.insInner, hq]
  simp [h]
theorem insInner_stop {lo m : Nat} {d : Array Nat} (h : (decide (lo < m) && ltN d[m]! d[m - 1]!) = false) : Sort.insInner ltN lo m d = d := by
  match m, h with
  | 0, _ => rfl
  | j + 1, h =>
    rw [Nat.add_sub_cancel] at h
    rw [Sort.insInner, if_neg (by simpa using h)]
theorem insOuter_step {lo hi k : Nat} {d : Array Nat} (h : k < hi) : Sort.insOuter ltN lo hi k d = Sort.insOuter ltN lo hi (k + 1) (Sort.insInner ltN lo k d) := by rw [Sort.insOuter, if_pos h]
theorem insOuter_stop {lo hi k : Nat} {d : Array Nat} (h : ¬ k < hi) : Sort.insOuter ltN lo hi k d = d := by rw [Sort.insOuter, if_neg h]

set_option maxRecDepth 100000 in
set_option maxHeartbeats 2000000 in
theorem insertionSort_walk (g : Nat) (R : List Value) (d : Array Nat) (n cap lo hi : Nat) (hn : d.size = n) (hlo : lo ≤ hi) (hhi : hi ≤ n) (hn5 : n ≤ 1000000) (w : World) (hN : NR w g d R) :
    Calls Tryz.prog 156 #[.slice (some ⟨g, 0, none⟩) n cap, .int .i64 (lo : Int), .int .i64 (hi : Int)] w (SRet w g R fun d' => d' = Sort.insertionSort ltN d lo hi) := by
  obtain ⟨RES, hRES⟩ : ∃ X, Sort.insertionSort ltN d lo hi = X := ⟨_, rfl⟩
  rw [hRES]
  have h0 : Hid (Sort.insOuter ltN lo hi (lo + 1) d = RES) := Lib.hid hRES
  clear hRES
  go_enter Tryz.func156, Tryz.ntmps156
  go_wp2
  go_loopw [6] (fun i wr => ∃ (k : Nat) (d1 : Array Nat), lo + 1 ≤ k ∧ k ≤ n + 1 ∧ i = .int .i64 (k : Int) ∧ Hid (Sort.insOuter ltN lo hi k d1 = RES) ∧ d1.size = n ∧ NR wr g d1 R ∧ Chg (OnlyG g) w wr) (fun i _ => n + 2 - (intOf i).toNat)
  case atStart => exact ⟨lo + 1, d, Nat.le_refl _, by omega, by go_num, h0, hn, hN, Chg.refl _ _⟩
  case round =>
    obtain ⟨k, d1, hk1, hk2, rfl, hI, hn1, hN1, hC1⟩ := hrel
    by_cases hlt : k < hi
    · have hlti : (k : Int) < (hi : Int) := by omega
      go_wp2
      go_loopw [7] (fun j wr => ∃ (m : Nat) (d2 : Array Nat), m ≤ k ∧ j = .int .i64 (m : Int) ∧ Hid (Sort.insInner ltN lo m d2 = Sort.insInner ltN lo k d1) ∧ d2.size = n ∧ NR wr g d2 R ∧ Chg (OnlyG g) w wr) (fun j _ => (intOf j).toNat)
      case atStart => exact ⟨k, d1, Nat.le_refl _, rfl, Lib.hid rfl, hn1, hN1, hC1⟩
      case round =>
        obtain ⟨m, d2, hm, rfl, hI2, hn2, hN_wr, hC_wr⟩ := hrel
        go_upto_region 4 with (fail)
        refine s_cut [none, none, none, none, none, none, none, none, none, none, none, none, none, none, none, none, some 16, some 17, some 18, some 19, some 20, some 21, some 22, some 23, some 24, some 25, some 26, some 27, some 28, some 29, some 30, none, none, none, none, none, none, none, none, none, none, none, none, none, none, none, none, none, none] (fun f W => f 30 = .bool (decide (lo < m) && ltN d2[m]! d2[m - 1]!) ∧ Below wr.heap.size wr W) (fun Q1 hQ1 => ?_) ?_
        · by_cases hg : lo < m
          · skip
            refine Flow.wp_region_flow (wr.heap.size) [] [] (by kernel_rfl) (by kernel_rfl) (Nat.le_refl _) (fun _ h => by cases h) Flow.facts_nil ?_
            refine Flow.pass_old (X := .int .i64 ((m : Int))) 7 (Flow.met_none rfl) (.inl rfl) (by kernel_rfl) (by kernel_rfl) rfl ?_
            refine Flow.pass_old (X := .int .i64 ((lo : Int))) 1 (Flow.met_none rfl) (.inl rfl) (by kernel_rfl) (by kernel_rfl) rfl ?_
            refine Flow.pass_val (.bool true) (Flow.met_none rfl) (fun a W hH => ?_) ?_
            · have e0 := Flow.see_new 16 0 hH.sees (by kernel_rfl) (by kernel_rfl) rfl rfl
              have e1 := Flow.see_new 17 1 hH.sees (by kernel_rfl) (by kernel_rfl) rfl rfl
              go_simp; first | done | rfl | (simp; omega)
            refine Flow.pass_copy 18 2 (Flow.met_none rfl) (.inl rfl) (by kernel_rfl) (by kernel_rfl) rfl rfl (fun _ _ => Flow.kept_eqs _ _) ?_
            refine Flow.pass_old (X := .slice (some ⟨g, 0, none⟩) n cap) 0 (Flow.met_some 3 true 19 rfl rfl (by kernel_rfl) (by kernel_rfl) rfl rfl) (.inl rfl) (by kernel_rfl) (by kernel_rfl) rfl ?_
            refine Flow.pass_old (X := .int .i64 ((m : Int))) 7 (Flow.met_some 3 true 19 rfl rfl (by kernel_rfl) (by kernel_rfl) rfl rfl) (.inl rfl) (by kernel_rfl) (by kernel_rfl) rfl ?_
            refine Flow.pass_val (.pointer (some ⟨g, m, none⟩)) (Flow.met_some 3 true 19 rfl rfl (by kernel_rfl) (by kernel_rfl) rfl rfl) (fun a W hH => ?_) ?_
            · have e0 := Flow.see_new 20 4 hH.sees (by kernel_rfl) (by kernel_rfl) rfl rfl
              have e1 := Flow.see_new 21 5 hH.sees (by kernel_rfl) (by kernel_rfl) rfl rfl
              exact s_ixS (s := 1) (m) _ rfl Tryz.underlying74 (by kernel_rfl) (by first | exact e0 | simpa [Act.eval] using e0 | (simp [Act.eval])) (by first | exact e1 | simpa [Act.eval] using e1 | (simp [Act.eval])) (by omega) (by omega) (by omega)
            refine Flow.pass_val (.int .u64 ((d2[m]! : Nat) : Int)) (Flow.met_some 3 true 19 rfl rfl (by kernel_rfl) (by kernel_rfl) rfl rfl) (fun a W hH => ?_) ?_
            · have e0 := Flow.see_new 22 6 hH.sees (by kernel_rfl) (by kernel_rfl) rfl rfl
              have cc := nr_cell (hN_wr.below ((Below.refl wr.heap.size wr).drew.trans hH.below) hN_wr.lt) (m) (by omega); go_simp; first | done | rfl
            refine Flow.pass_old (X := .slice (some ⟨g, 0, none⟩) n cap) 0 (Flow.met_some 3 true 19 rfl rfl (by kernel_rfl) (by kernel_rfl) rfl rfl) (.inl rfl) (by kernel_rfl) (by kernel_rfl) rfl ?_
            refine Flow.pass_old (X := .int .i64 ((m : Int))) 7 (Flow.met_some 3 true 19 rfl rfl (by kernel_rfl) (by kernel_rfl) rfl rfl) (.inl rfl) (by kernel_rfl) (by kernel_rfl) rfl ?_
            refine Flow.pass_val (.int .i64 ((m : Int) - 1)) (Flow.met_some 3 true 19 rfl rfl (by kernel_rfl) (by kernel_rfl) rfl rfl) (fun a W hH => ?_) ?_
            · have e0 := Flow.see_new 25 9 hH.sees (by kernel_rfl) (by kernel_rfl) rfl rfl
              go_simp; first | done | rfl | (rw [IntWalk.i64_in _ (by omega)]; first | done | rfl | omega | (simp; done))
            refine Flow.pass_val (.pointer (some ⟨g, (m - 1), none⟩)) (Flow.met_some 3 true 19 rfl rfl (by kernel_rfl) (by kernel_rfl) rfl rfl) (fun a W hH => ?_) ?_
            · have e0 := Flow.see_new 24 8 hH.sees (by kernel_rfl) (by kernel_rfl) rfl rfl
              have e1 := Flow.see_new 26 10 hH.sees (by kernel_rfl) (by kernel_rfl) rfl rfl
              exact s_ixS (s := 1) ((m - 1)) _ rfl Tryz.underlying74 (by kernel_rfl) (by first | exact e0 | simpa [Act.eval] using e0 | (simp [Act.eval])) (by first | exact e1 | simpa [Act.eval] using e1 | (simp [Act.eval])) (by omega) (by omega) (by omega)
            refine Flow.pass_val (.int .u64 ((d2[(m - 1)]! : Nat) : Int)) (Flow.met_some 3 true 19 rfl rfl (by kernel_rfl) (by kernel_rfl) rfl rfl) (fun a W hH => ?_) ?_
            · have e0 := Flow.see_new 27 11 hH.sees (by kernel_rfl) (by kernel_rfl) rfl rfl
              have cc := nr_cell (hN_wr.below ((Below.refl wr.heap.size wr).drew.trans hH.below) hN_wr.lt) ((m - 1)) (by omega); go_simp; first | done | rfl
            refine Flow.pass_step (Reg.eqs (.bool (ltN (d2[m]!) (d2[(m - 1)]!)))) (fun _ _ => Flow.kept_eqs _ _) (Flow.met_some 3 true 19 rfl rfl (by kernel_rfl) (by kernel_rfl) rfl rfl) (fun a W hH => ?_) ?_
            · have e0 := Flow.see_new 23 7 hH.sees (by kernel_rfl) (by kernel_rfl) rfl rfl
              have e1 := Flow.see_new 28 12 hH.sees (by kernel_rfl) (by kernel_rfl) rfl rfl
              refine Reg.wp_call rfl Tryz.func162 rfl (by kernel_rfl) (by simp [Act.eval, e0, e1]) (lessN (d2[m]!) (d2[(m - 1)]!) W) ?_
              rintro e w' ⟨rfl, rfl⟩
              exact ⟨_, rfl, _, rfl, Ext.refl _, rfl⟩
            refine Flow.pass_val (.bool (ltN (d2[m]!) (d2[(m - 1)]!))) (Flow.met_none rfl) (fun a W hH => ?_) ?_
            · have e0 := Flow.see_new 19 3 hH.sees (by kernel_rfl) (by kernel_rfl) rfl rfl
              have e1 := Flow.see_new 29 13 hH.sees (by kernel_rfl) (by kernel_rfl) rfl rfl
              go_simp; first | done | rfl
            refine Flow.pass_end [none, none, none, none, none, none, none, none, none, none, none, none, none, none, none, none, some 16, some 17, some 18, some 19, some 20, some 21, some 22, some 23, some 24, some 25, some 26, some 27, some 28, some 29, some 30, none, none, none, none, none, none, none, none, none, none, none, none, none, none, none, none, none, none] (by kernel_rfl) ?_
            intro f gg w9 hB hfa hT hfg
            have h30 : f 30 = _ := (hfg 30 14 (by kernel_rfl)).trans (hT 14 _ (by kernel_rfl) rfl)
            exact hQ1 f w9 ⟨by rw [h30, decide_eq_true hg, Bool.true_and], (Below.refl wr.heap.size wr).drew.trans hB⟩
          · skip
            refine Flow.wp_region_flow (wr.heap.size) [] [] (by kernel_rfl) (by kernel_rfl) (Nat.le_refl _) (fun _ h => by cases h) Flow.facts_nil ?_
            refine Flow.pass_old (X := .int .i64 ((m : Int))) 7 (Flow.met_none rfl) (.inl rfl) (by kernel_rfl) (by kernel_rfl) rfl ?_
            refine Flow.pass_old (X := .int .i64 ((lo : Int))) 1 (Flow.met_none rfl) (.inl rfl) (by kernel_rfl) (by kernel_rfl) rfl ?_
            refine Flow.pass_val (.bool false) (Flow.met_none rfl) (fun a W hH => ?_) ?_
            · have e0 := Flow.see_new 16 0 hH.sees (by kernel_rfl) (by kernel_rfl) rfl rfl
              have e1 := Flow.see_new 17 1 hH.sees (by kernel_rfl) (by kernel_rfl) rfl rfl
              go_simp; first | done | rfl | (simp; omega)
            refine Flow.pass_copy 18 2 (Flow.met_none rfl) (.inl rfl) (by kernel_rfl) (by kernel_rfl) rfl rfl (fun _ _ => Flow.kept_eqs _ _) ?_
            refine Flow.pass_skip (fun a W hH => Flow.not_wanted 3 true 19 hH rfl rfl (by kernel_rfl) (by kernel_rfl) rfl rfl) ?_
            refine Flow.pass_skip (fun a W hH => Flow.not_wanted 3 true 19 hH rfl rfl (by kernel_rfl) (by kernel_rfl) rfl rfl) ?_
            refine Flow.pass_skip (fun a W hH => Flow.not_wanted 3 true 19 hH rfl rfl (by kernel_rfl) (by kernel_rfl) rfl rfl) ?_
            refine Flow.pass_skip (fun a W hH => Flow.not_wanted 3 true 19 hH rfl rfl (by kernel_rfl) (by kernel_rfl) rfl rfl) ?_
            refine Flow.pass_skip (fun a W hH => Flow.not_wanted 3 true 19 hH rfl rfl (by kernel_rfl) (by kernel_rfl) rfl rfl) ?_
            refine Flow.pass_skip (fun a W hH => Flow.not_wanted 3 true 19 hH rfl rfl (by kernel_rfl) (by kernel_rfl) rfl rfl) ?_
            refine Flow.pass_skip (fun a W hH => Flow.not_wanted 3 true 19 hH rfl rfl (by kernel_rfl) (by kernel_rfl) rfl rfl) ?_
            refine Flow.pass_skip (fun a W hH => Flow.not_wanted 3 true 19 hH rfl rfl (by kernel_rfl) (by kernel_rfl) rfl rfl) ?_
            refine Flow.pass_skip (fun a W hH => Flow.not_wanted 3 true 19 hH rfl rfl (by kernel_rfl) (by kernel_rfl) rfl rfl) ?_
            refine Flow.pass_skip (fun a W hH => Flow.not_wanted 3 true 19 hH rfl rfl (by kernel_rfl) (by kernel_rfl) rfl rfl) ?_
            refine Flow.pass_val (.bool false) (Flow.met_none rfl) (fun a W hH => ?_) ?_
            · have e0 := Flow.see_new 19 3 hH.sees (by kernel_rfl) (by kernel_rfl) rfl rfl
              have e1 := Flow.see_new 29 13 hH.sees (by kernel_rfl) (by kernel_rfl) rfl rfl
              go_simp; first | done | rfl
            refine Flow.pass_end [none, none, none, none, none, none, none, none, none, none, none, none, none, none, none, none, some 16, some 17, some 18, some 19, some 20, some 21, some 22, some 23, some 24, some 25, some 26, some 27, some 28, some 29, some 30, none, none, none, none, none, none, none, none, none, none, none, none, none, none, none, none, none, none] (by kernel_rfl) ?_
            intro f gg w9 hB hfa hT hfg
            have h30 : f 30 = _ := (hfg 30 14 (by kernel_rfl)).trans (hT 14 _ (by kernel_rfl) rfl)
            exact hQ1 f w9 ⟨by rw [h30, decide_eq_false hg, Bool.false_and], (Below.refl wr.heap.size wr).drew.trans hB⟩
        intro f W5 ⟨h30, hBW5⟩
        simp only [Reg.sel, h30]
        have hN_W5 := Blk.below hN_wr hBW5 (Blk.lt hN_wr)
        have hC_W5 := hC_wr.trans (Chg.of_ext hBW5)
        clear h30 hBW5
        cases hq : (decide (lo < m) && ltN d2[m]! d2[m - 1]!) with
        | true =>
          simp only [Bool.and_eq_true, decide_eq_true_eq] at hq
          have hst := Lib.hid (insInner_step hq.1 hq.2)
          have hm1 := hq.1
          clear hq
          go_upto_region 6 with (fail)
          refine Flow.wp_region_flow (g) [(15, fun b => b = g), (17, fun b => b = g)] [(9, fun W => NR W g d2 R), (13, fun W => NR W g d2 R), (15, fun W => NR W g d2 R), (18, fun W => Chg (OnlyG g) W5 W)] (by kernel_rfl) (by kernel_rfl) (Nat.le_of_lt hN_W5.lt) (Flow.nz_cons (by rintro b rfl; exact Nat.le_refl _) (Flow.nz_cons (by rintro b rfl; exact Nat.le_refl _) Flow.nz_nil)) (Flow.facts_cons (hN_W5.drew) (Flow.kept_blk id) (Flow.fz_cons (Flow.no_follow (by kernel_rfl)) (Flow.fz_cons (Flow.no_follow (by kernel_rfl)) Flow.fz_nil)) (Flow.facts_cons (hN_W5.drew) (Flow.kept_blk id) (Flow.fz_cons (Flow.no_follow (by kernel_rfl)) (Flow.fz_cons (Flow.no_follow (by kernel_rfl)) Flow.fz_nil)) (Flow.facts_cons (hN_W5.drew) (Flow.kept_blk id) (Flow.fz_cons (Flow.no_follow (by kernel_rfl)) (Flow.fz_cons (Flow.no_follow (by kernel_rfl)) Flow.fz_nil)) (Flow.facts_cons ((Chg.refl _ _).drew) (fun _ _ c h => onlyg_trans h c (by first | exact fun _ hj => hj | exact fun _ hj => hj.elim)) (Flow.fz_cons (fun _ => fun _ _ c h => onlyg_trans h c (by first | exact fun _ hj => hj | exact fun _ hj => hj.elim)) (Flow.fz_cons (fun _ => fun _ _ c h => onlyg_trans h c (by first | exact fun _ hj => hj | exact fun _ hj => hj.elim)) Flow.fz_nil)) Flow.facts_nil)))) ?_
          refine Flow.pass_old (X := .slice (some ⟨g, 0, none⟩) n cap) 0 (Flow.met_none rfl) (.inl rfl) (by kernel_rfl) (by kernel_rfl) rfl ?_
          refine Flow.pass_old (X := .int .i64 ((m : Int))) 7 (Flow.met_none rfl) (.inl rfl) (by kernel_rfl) (by kernel_rfl) rfl ?_
          refine Flow.pass_old (X := .slice (some ⟨g, 0, none⟩) n cap) 0 (Flow.met_none rfl) (.inl rfl) (by kernel_rfl) (by kernel_rfl) rfl ?_
          refine Flow.pass_old (X := .int .i64 ((m : Int))) 7 (Flow.met_none rfl) (.inl rfl) (by kernel_rfl) (by kernel_rfl) rfl ?_
          refine Flow.pass_val (.int .i64 ((m : Int) - 1)) (Flow.met_none rfl) (fun a W hH => ?_) ?_
          · have e0 := Flow.see_new 36 3 hH.sees (by kernel_rfl) (by kernel_rfl) rfl rfl
            go_simp; first | done | rfl | (rw [IntWalk.i64_in _ (by omega)]; first | done | rfl | omega | (simp; done))
          refine Flow.pass_old (X := .slice (some ⟨g, 0, none⟩) n cap) 0 (Flow.met_none rfl) (.inl rfl) (by kernel_rfl) (by kernel_rfl) rfl ?_
          refine Flow.pass_old (X := .int .i64 ((m : Int))) 7 (Flow.met_none rfl) (.inl rfl) (by kernel_rfl) (by kernel_rfl) rfl ?_
          refine Flow.pass_val (.int .i64 ((m : Int) - 1)) (Flow.met_none rfl) (fun a W hH => ?_) ?_
          · have e0 := Flow.see_new 39 6 hH.sees (by kernel_rfl) (by kernel_rfl) rfl rfl
            go_simp; first | done | rfl | (rw [IntWalk.i64_in _ (by omega)]; first | done | rfl | omega | (simp; done))
          refine Flow.pass_val (.pointer (some ⟨g, (m - 1), none⟩)) (Flow.met_none rfl) (fun a W hH => ?_) ?_
          · have e0 := Flow.see_new 38 5 hH.sees (by kernel_rfl) (by kernel_rfl) rfl rfl
            have e1 := Flow.see_new 40 7 hH.sees (by kernel_rfl) (by kernel_rfl) rfl rfl
            exact s_ixS (s := 1) ((m - 1)) _ rfl Tryz.underlying74 (by kernel_rfl) (by first | exact e0 | simpa [Act.eval] using e0 | (simp [Act.eval])) (by first | exact e1 | simpa [Act.eval] using e1 | (simp [Act.eval])) (by omega) (by omega) (by omega)
          refine Flow.pass_val (.int .u64 ((d2[(m - 1)]! : Nat) : Int)) (Flow.met_none rfl) (fun a W hH => ?_) ?_
          · have e0 := Flow.see_new 41 8 hH.sees (by kernel_rfl) (by kernel_rfl) rfl rfl
            have fa0 : (fun W => NR W g d2 R) W := hH.fact _ (List.mem_of_getElem? (i := 0) rfl) rfl
            have cc := nr_cell fa0 ((m - 1)) (by omega); go_simp; first | done | rfl
          refine Flow.pass_old (X := .slice (some ⟨g, 0, none⟩) n cap) 0 (Flow.met_none rfl) (.inl rfl) (by kernel_rfl) (by kernel_rfl) rfl ?_
          refine Flow.pass_old (X := .int .i64 ((m : Int))) 7 (Flow.met_none rfl) (.inl rfl) (by kernel_rfl) (by kernel_rfl) rfl ?_
          refine Flow.pass_val (.pointer (some ⟨g, m, none⟩)) (Flow.met_none rfl) (fun a W hH => ?_) ?_
          · have e0 := Flow.see_new 43 10 hH.sees (by kernel_rfl) (by kernel_rfl) rfl rfl
            have e1 := Flow.see_new 44 11 hH.sees (by kernel_rfl) (by kernel_rfl) rfl rfl
            exact s_ixS (s := 1) (m) _ rfl Tryz.underlying74 (by kernel_rfl) (by first | exact e0 | simpa [Act.eval] using e0 | (simp [Act.eval])) (by first | exact e1 | simpa [Act.eval] using e1 | (simp [Act.eval])) (by omega) (by omega) (by omega)
          refine Flow.pass_val (.int .u64 ((d2[m]! : Nat) : Int)) (Flow.met_none rfl) (fun a W hH => ?_) ?_
          · have e0 := Flow.see_new 45 12 hH.sees (by kernel_rfl) (by kernel_rfl) rfl rfl
            have fa1 : (fun W => NR W g d2 R) W := hH.fact _ (List.mem_of_getElem? (i := 1) rfl) rfl
            have cc := nr_cell fa1 (m) (by omega); go_simp; first | done | rfl
          refine Flow.pass_val (.pointer (some ⟨g, m, none⟩)) (Flow.met_none rfl) (fun a W hH => ?_) ?_
          · have e0 := Flow.see_new 33 0 hH.sees (by kernel_rfl) (by kernel_rfl) rfl rfl
            have e1 := Flow.see_new 34 1 hH.sees (by kernel_rfl) (by kernel_rfl) rfl rfl
            exact s_ixS (s := 1) (m) _ rfl Tryz.underlying74 (by kernel_rfl) (by first | exact e0 | simpa [Act.eval] using e0 | (simp [Act.eval])) (by first | exact e1 | simpa [Act.eval] using e1 | (simp [Act.eval])) (by omega) (by omega) (by omega)
          refine Flow.pass_lin [17] (fun _ W => NR W g (d2.setIfInBounds (m) (d2[(m - 1)]!)) R) (Flow.kept_lin [17] (fun _ _ _ c h => h.chg c id) (Flow.lz_cons (Flow.no_follow (by kernel_rfl)) (Flow.lz_cons (fun _ => .inl rfl) Flow.lz_nil))) (Flow.met_none rfl) (fun a W hH => ?_) ?_
          · have e0 := Flow.see_new 47 14 hH.sees (by kernel_rfl) (by kernel_rfl) rfl rfl
            have e1 := Flow.see_new 42 9 hH.sees (by kernel_rfl) (by kernel_rfl) rfl rfl
            have fa2 : (fun W => NR W g d2 R) W := hH.fact _ (List.mem_of_getElem? (i := 2) rfl) rfl
            refine s_skip (s_store rfl (by kernel_rfl) fa2 e0 e1 (nr_size (by omega))) ?_
            exact ⟨_, rfl, Chg.grown (s_grown _ _ _ _) (by rintro j h; cases h; rfl), nr_set fa2 _ (by omega) _⟩
          refine Flow.pass_val (.pointer (some ⟨g, (m - 1), none⟩)) (Flow.met_none rfl) (fun a W hH => ?_) ?_
          · have e0 := Flow.see_new 35 2 hH.sees (by kernel_rfl) (by kernel_rfl) rfl rfl
            have e1 := Flow.see_new 37 4 hH.sees (by kernel_rfl) (by kernel_rfl) rfl rfl
            exact s_ixS (s := 1) ((m - 1)) _ rfl Tryz.underlying74 (by kernel_rfl) (by first | exact e0 | simpa [Act.eval] using e0 | (simp [Act.eval])) (by first | exact e1 | simpa [Act.eval] using e1 | (simp [Act.eval])) (by omega) (by omega) (by omega)
          refine Flow.pass_gen (fun _ W => NR W g ((d2.setIfInBounds (m) (d2[(m - 1)]!)).setIfInBounds ((m - 1)) (d2[m]!)) R) (Flow.kept_of (fun _ _ _ c h => h.chg c id) (Flow.kz_cons (Flow.no_follow (by kernel_rfl)) (Flow.kz_cons (Flow.no_follow (by kernel_rfl)) Flow.kz_nil))) (Flow.met_none rfl) (fun a W hH => ?_) ?_
          · have e0 := Flow.see_new 48 16 hH.sees (by kernel_rfl) (by kernel_rfl) rfl rfl
            have e1 := Flow.see_new 46 13 hH.sees (by kernel_rfl) (by kernel_rfl) rfl rfl
            obtain ⟨_, hP⟩ := Flow.past_lin 15 hH.past (by kernel_rfl) (by kernel_rfl) rfl (by kernel_rfl)
            refine s_skip (s_store rfl (by kernel_rfl) hP e0 e1 (nr_size (by rw [Array.size_setIfInBounds]; omega))) ?_
            exact ⟨_, rfl, Chg.grown (s_grown _ _ _ _) (by rintro j h; cases h; rfl), nr_set hP _ (by rw [Array.size_setIfInBounds]; omega) _⟩
          refine Flow.pass_end [none, none, none, none, none, none, none, none, none, none, none, none, none, none, none, none, none, none, none, none, none, none, none, none, none, none, none, none, none, none, none, none, none, some 33, some 34, some 35, some 36, some 37, some 38, some 39, some 40, some 41, some 42, some 43, some 44, some 45, some 46, some 47, some 48] (by kernel_rfl) ?_
          intro f gg w9 hB hfa hT hfg
          have F3 : (fun W => Chg (OnlyG g) W5 W) w9 := hfa _ (List.mem_of_getElem? (i := 3) rfl) (Nat.le_refl _)
          have hN_W6 : NR w9 g (Sort.swp d2 (m) (m - 1)) R := hT 17 _ (by kernel_rfl) rfl
          have hC_W6 := hC_W5.trans F3
          simp only [Reg.sel]
          obtain ⟨W6, hWW6⟩ : ∃ W, W = w9 := ⟨_, rfl⟩
          subst hWW6
          clear hT hfg hfa hB F3
          go_wp2
          go_roundw
          case rel => first | exact ⟨m - 1, _, by omega, by go_num, Lib.hid (by rw [← hst.out]; exact hI2.out), by rw [swp_size]; exact hn2, hN_W6, hC_W6⟩ | ((repeat apply Exists.intro); refine ⟨?_, rfl⟩; exact ⟨m - 1, _, by omega, by go_num, Lib.hid (by rw [← hst.out]; exact hI2.out), by rw [swp_size]; exact hn2, hN_W6, hC_W6⟩)
          case measure => first | (simp [intOf]; done) | (simp [intOf]; omega) | (simp only [intOf]; omega)
        | false =>
          have hstop := Lib.hid (insInner_stop hq)
          clear hq
          go_wp2
          go_roundw
          case rel => first | exact ⟨k + 1, d2, by omega, by omega, by go_num, Lib.hid (by rw [← hI.out, insOuter_step hlt, ← hI2.out, hstop.out]), hn2, hN_W5, hC_W5⟩ | ((repeat apply Exists.intro); refine ⟨?_, rfl⟩; exact ⟨k + 1, d2, by omega, by omega, by go_num, Lib.hid (by rw [← hI.out, insOuter_step hlt, ← hI2.out, hstop.out]), hn2, hN_W5, hC_W5⟩)
          case measure => first | (simp [intOf]; done) | (simp [intOf]; omega) | (simp only [intOf]; omega)
    · have hlti : ¬ (k : Int) < (hi : Int) := by omega
      go_wp2
      refine bodyPost_ret (results_none rfl _ _ _) rfl ?_
      exact ⟨rfl, d1, by rw [← hI.out, insOuter_stop hlt], hN1, hC1⟩
end Go.Proofs.YtipdmhppadapkaaGreatDoor
/-
  Walks: slices.siftDownOrdered, heapSortOrdered at uint64.
-/
namespace Go.Proofs.YtipdmhppadapkaaGreatDoor
open Go.RowKit

theorem sift_stop {hi first root : Nat} {d : Array Nat} (h : ¬ 2 * root + 1 < hi) : Sort.siftDown ltN hi first root d = d := by rw [Sort.siftDown, dif_pos (by omega)]
theorem sift_pick {hi first root c : Nat} {d : Array Nat} (h : 2 * root + 1 < hi) (hc : c = if (decide (2 * root + 1 + 1 < hi) && ltN d[first + (2 * root + 1)]! d[first + (2 * root + 1) + 1]!) then 2 * root + 1 + 1 else 2 * root + 1) :
    Sort.siftDown ltN hi first root d = if ltN d[first + root]! d[first + c]! then Sort.siftDown ltN hi first c (Sort.swp d (first + root) (first + c)) else d := by
  rw [Sort.siftDown, dif_neg (by omega)]
  by_cases h1 : (decide (2 * root + 1 + 1 < hi) && ltN d[first + (2 * root + 1)]! d[first + (2 * root + 1) + 1]!) = true
  · rw [if_pos h1] at hc
    rw [if_pos h1]
    have h2 : 2 * root + 2 < hi := by simp only [Bool.and_eq_true, decide_eq_true_eq] at h1; exact h1.1
    have e : c = 2 * root + 2 := by omega
    subst e
    cases hq : ltN d[first + root]! d[first + (2 * root + 2)]! with
    | true => simp [h2]
    | false => simp
  · rw [if_neg h1] at hc
    rw [if_neg h1]
    subst hc
    cases hq : ltN d[first + root]! d[first + (2 * root + 1)]! with
    | true => simp
    | false => simp

set_option maxRecDepth 100000 in
set_option maxHeartbeats 2000000 in
theorem siftDown_walk (g : Nat) (R : List Value) (d : Array Nat) (n cap lo hi first : Nat) (hn : d.size = n) (hf : first + hi ≤ n) (hlo : lo ≤ n) (hn5 : n ≤ 1000000) (w : World) (hN : NR w g d R) :
    Calls Tryz.prog 175 #[.slice (some ⟨g, 0, none⟩) n cap, .int .i64 (lo : Int), .int .i64 (hi : Int), .int .i64 (first : Int)] w (SRet w g R fun d' => d' = Sort.siftDown ltN hi first lo d) := by
  obtain ⟨RES, hRES⟩ : ∃ X, Sort.siftDown ltN hi first lo d = X := ⟨_, rfl⟩
  rw [hRES]
  have h0 := Lib.hid hRES
  clear hRES
  go_enter Tryz.func175, Tryz.ntmps175
  go_wp2
  go_loopw [8] (fun r wr => ∃ (root : Nat) (d1 : Array Nat), r = .int .i64 (root : Int) ∧ root ≤ n ∧ Hid (Sort.siftDown ltN hi first root d1 = RES) ∧ d1.size = n ∧ NR wr g d1 R ∧ Chg (OnlyG g) w wr) (fun r _ => n + 1 - (intOf r).toNat)
  case atStart => exact ⟨lo, d, rfl, hlo, h0, hn, hN, Chg.refl _ _⟩
  case round =>
    obtain ⟨root, d1, rfl, hr, hI, hn1, hN_wr, hC_wr⟩ := hrel
    obtain ⟨c1, hc1⟩ : ∃ c, 2 * root + 1 = c := ⟨_, rfl⟩
    have hw1 : IntKind.i64.wrap (2 * (root : Int) + 1) = (c1 : Int) := by rw [IntWalk.i64_in _ (by omega)]; omega
    have hw0 : IntKind.i64.wrap (2 * (root : Int)) = 2 * (root : Int) := IntWalk.i64_in _ (by omega)
    have HC1 := Lib.hid hc1
    by_cases hge : c1 < hi
    · have hge2 : 2 * root + 1 < hi := by omega
      have hgi : ¬ (hi : Int) ≤ (c1 : Int) := by omega
      go_upto_region 3 with (fail)
      refine s_cut [none, none, none, none, none, none, none, none, none, none, none, none, none, none, none, none, none, some 17, some 18, some 19, some 20, some 21, some 22, some 23, some 24, some 25, some 26, some 27, some 28, some 29, some 30, some 31, some 32, some 33, some 34, some 35, some 36, none, none, none, none, none, none, none, none, none, none, none, none, none, none, none, none, none, none, none, none, none, none, none, none, none, none, none, none, none, none, none, none, none, none, none, none, none, none, none] (fun f W => f 36 = .bool (decide (c1 + 1 < hi) && ltN d1[first + c1]! d1[first + c1 + 1]!) ∧ Below wr.heap.size wr W) (fun Q1 hQ1 => ?_) ?_
      · by_cases hg : c1 + 1 < hi
        · skip
          refine Flow.wp_region_flow (wr.heap.size) [] [] (by kernel_rfl) (by kernel_rfl) (Nat.le_refl _) (fun _ h => by cases h) Flow.facts_nil ?_
          refine Flow.pass_old (X := .int .i64 ((c1 : Int))) 9 (Flow.met_none rfl) (.inl rfl) (by kernel_rfl) (by kernel_rfl) rfl ?_
          refine Flow.pass_val (.int .i64 ((c1 : Int) + 1)) (Flow.met_none rfl) (fun a W hH => ?_) ?_
          · have e0 := Flow.see_new 17 0 hH.sees (by kernel_rfl) (by kernel_rfl) rfl rfl
            go_simp; first | done | rfl | (rw [IntWalk.i64_in _ (by omega)]; first | done | rfl | omega | (simp; done))
          refine Flow.pass_old (X := .int .i64 ((hi : Int))) 2 (Flow.met_none rfl) (.inl rfl) (by kernel_rfl) (by kernel_rfl) rfl ?_
          refine Flow.pass_val (.bool true) (Flow.met_none rfl) (fun a W hH => ?_) ?_
          · have e0 := Flow.see_new 18 1 hH.sees (by kernel_rfl) (by kernel_rfl) rfl rfl
            have e1 := Flow.see_new 19 2 hH.sees (by kernel_rfl) (by kernel_rfl) rfl rfl
            go_simp; first | done | rfl | omega | (simp; done) | (simp; omega) | exact decide_eq_true (by omega) | exact decide_eq_false (by omega)
          refine Flow.pass_copy 20 3 (Flow.met_none rfl) (.inl rfl) (by kernel_rfl) (by kernel_rfl) rfl rfl (fun _ _ => Flow.kept_eqs _ _) ?_
          refine Flow.pass_old (X := .slice (some ⟨g, 0, none⟩) n cap) 0 (Flow.met_some 4 true 21 rfl rfl (by kernel_rfl) (by kernel_rfl) rfl rfl) (.inl rfl) (by kernel_rfl) (by kernel_rfl) rfl ?_
          refine Flow.pass_old (X := .int .i64 ((first : Int))) 3 (Flow.met_some 4 true 21 rfl rfl (by kernel_rfl) (by kernel_rfl) rfl rfl) (.inl rfl) (by kernel_rfl) (by kernel_rfl) rfl ?_
          refine Flow.pass_old (X := .int .i64 ((c1 : Int))) 9 (Flow.met_some 4 true 21 rfl rfl (by kernel_rfl) (by kernel_rfl) rfl rfl) (.inl rfl) (by kernel_rfl) (by kernel_rfl) rfl ?_
          refine Flow.pass_val (.int .i64 ((first : Int) + (c1 : Int))) (Flow.met_some 4 true 21 rfl rfl (by kernel_rfl) (by kernel_rfl) rfl rfl) (fun a W hH => ?_) ?_
          · have e0 := Flow.see_new 23 6 hH.sees (by kernel_rfl) (by kernel_rfl) rfl rfl
            have e1 := Flow.see_new 24 7 hH.sees (by kernel_rfl) (by kernel_rfl) rfl rfl
            go_simp; first | done | rfl | (rw [IntWalk.i64_in _ (by omega)]; first | done | rfl | omega | (simp; done))
          refine Flow.pass_val (.pointer (some ⟨g, (first + c1), none⟩)) (Flow.met_some 4 true 21 rfl rfl (by kernel_rfl) (by kernel_rfl) rfl rfl) (fun a W hH => ?_) ?_
          · have e0 := Flow.see_new 22 5 hH.sees (by kernel_rfl) (by kernel_rfl) rfl rfl
            have e1 := Flow.see_new 25 8 hH.sees (by kernel_rfl) (by kernel_rfl) rfl rfl
            exact s_ixS (s := 1) ((first + c1)) _ rfl Tryz.underlying74 (by kernel_rfl) (by first | exact e0 | simpa [Act.eval] using e0 | (simp [Act.eval])) (by first | exact e1 | simpa [Act.eval] using e1 | (simp [Act.eval])) (by omega) (by omega) (by omega)
          refine Flow.pass_val (.int .u64 ((d1[(first + c1)]! : Nat) : Int)) (Flow.met_some 4 true 21 rfl rfl (by kernel_rfl) (by kernel_rfl) rfl rfl) (fun a W hH => ?_) ?_
          · have e0 := Flow.see_new 26 9 hH.sees (by kernel_rfl) (by kernel_rfl) rfl rfl
            have cc := nr_cell (hN_wr.below ((Below.refl wr.heap.size wr).drew.trans hH.below) hN_wr.lt) ((first + c1)) (by omega); go_simp; first | done | rfl
          refine Flow.pass_old (X := .slice (some ⟨g, 0, none⟩) n cap) 0 (Flow.met_some 4 true 21 rfl rfl (by kernel_rfl) (by kernel_rfl) rfl rfl) (.inl rfl) (by kernel_rfl) (by kernel_rfl) rfl ?_
          refine Flow.pass_old (X := .int .i64 ((first : Int))) 3 (Flow.met_some 4 true 21 rfl rfl (by kernel_rfl) (by kernel_rfl) rfl rfl) (.inl rfl) (by kernel_rfl) (by kernel_rfl) rfl ?_
          refine Flow.pass_old (X := .int .i64 ((c1 : Int))) 9 (Flow.met_some 4 true 21 rfl rfl (by kernel_rfl) (by kernel_rfl) rfl rfl) (.inl rfl) (by kernel_rfl) (by kernel_rfl) rfl ?_
          refine Flow.pass_val (.int .i64 ((first : Int) + (c1 : Int))) (Flow.met_some 4 true 21 rfl rfl (by kernel_rfl) (by kernel_rfl) rfl rfl) (fun a W hH => ?_) ?_
          · have e0 := Flow.see_new 29 12 hH.sees (by kernel_rfl) (by kernel_rfl) rfl rfl
            have e1 := Flow.see_new 30 13 hH.sees (by kernel_rfl) (by kernel_rfl) rfl rfl
            go_simp; first | done | rfl | (rw [IntWalk.i64_in _ (by omega)]; first | done | rfl | omega | (simp; done))
          refine Flow.pass_val (.int .i64 (((first : Int) + (c1 : Int)) + 1)) (Flow.met_some 4 true 21 rfl rfl (by kernel_rfl) (by kernel_rfl) rfl rfl) (fun a W hH => ?_) ?_
          · have e0 := Flow.see_new 31 14 hH.sees (by kernel_rfl) (by kernel_rfl) rfl rfl
            go_simp; first | done | rfl | (rw [IntWalk.i64_in _ (by omega)]; first | done | rfl | omega | (simp; done))
          refine Flow.pass_val (.pointer (some ⟨g, ((first + c1) + 1), none⟩)) (Flow.met_some 4 true 21 rfl rfl (by kernel_rfl) (by kernel_rfl) rfl rfl) (fun a W hH => ?_) ?_
          · have e0 := Flow.see_new 28 11 hH.sees (by kernel_rfl) (by kernel_rfl) rfl rfl
            have e1 := Flow.see_new 32 15 hH.sees (by kernel_rfl) (by kernel_rfl) rfl rfl
            exact s_ixS (s := 1) (((first + c1) + 1)) _ rfl Tryz.underlying74 (by kernel_rfl) (by first | exact e0 | simpa [Act.eval] using e0 | (simp [Act.eval])) (by first | exact e1 | simpa [Act.eval] using e1 | (simp [Act.eval])) (by omega) (by omega) (by omega)
          refine Flow.pass_val (.int .u64 ((d1[((first + c1) + 1)]! : Nat) : Int)) (Flow.met_some 4 true 21 rfl rfl (by kernel_rfl) (by kernel_rfl) rfl rfl) (fun a W hH => ?_) ?_
          · have e0 := Flow.see_new 33 16 hH.sees (by kernel_rfl) (by kernel_rfl) rfl rfl
            have cc := nr_cell (hN_wr.below ((Below.refl wr.heap.size wr).drew.trans hH.below) hN_wr.lt) (((first + c1) + 1)) (by omega); go_simp; first | done | rfl
          refine Flow.pass_step (Reg.eqs (.bool (ltN (d1[(first + c1)]!) (d1[((first + c1) + 1)]!)))) (fun _ _ => Flow.kept_eqs _ _) (Flow.met_some 4 true 21 rfl rfl (by kernel_rfl) (by kernel_rfl) rfl rfl) (fun a W hH => ?_) ?_
          · have e0 := Flow.see_new 27 10 hH.sees (by kernel_rfl) (by kernel_rfl) rfl rfl
            have e1 := Flow.see_new 34 17 hH.sees (by kernel_rfl) (by kernel_rfl) rfl rfl
            refine Reg.wp_call rfl Tryz.func162 rfl (by kernel_rfl) (by simp [Act.eval, e0, e1]) (lessN (d1[(first + c1)]!) (d1[((first + c1) + 1)]!) W) ?_
            rintro e w' ⟨rfl, rfl⟩
            exact ⟨_, rfl, _, rfl, Ext.refl _, rfl⟩
          refine Flow.pass_val (.bool (ltN (d1[(first + c1)]!) (d1[((first + c1) + 1)]!))) (Flow.met_none rfl) (fun a W hH => ?_) ?_
          · have e0 := Flow.see_new 21 4 hH.sees (by kernel_rfl) (by kernel_rfl) rfl rfl
            have e1 := Flow.see_new 35 18 hH.sees (by kernel_rfl) (by kernel_rfl) rfl rfl
            go_simp; first | done | rfl
          refine Flow.pass_end [none, none, none, none, none, none, none, none, none, none, none, none, none, none, none, none, none, some 17, some 18, some 19, some 20, some 21, some 22, some 23, some 24, some 25, some 26, some 27, some 28, some 29, some 30, some 31, some 32, some 33, some 34, some 35, some 36, none, none, none, none, none, none, none, none, none, none, none, none, none, none, none, none, none, none, none, none, none, none, none, none, none, none, none, none, none, none, none, none, none, none, none, none, none, none, none] (by kernel_rfl) ?_
          intro f gg w9 hB hfa hT hfg
          have h36 : f 36 = _ := (hfg 36 19 (by kernel_rfl)).trans (hT 19 _ (by kernel_rfl) rfl)
          exact hQ1 f w9 ⟨by rw [h36, decide_eq_true hg, Bool.true_and], (Below.refl wr.heap.size wr).drew.trans hB⟩
        · skip
          refine Flow.wp_region_flow (wr.heap.size) [] [] (by kernel_rfl) (by kernel_rfl) (Nat.le_refl _) (fun _ h => by cases h) Flow.facts_nil ?_
          refine Flow.pass_old (X := .int .i64 ((c1 : Int))) 9 (Flow.met_none rfl) (.inl rfl) (by kernel_rfl) (by kernel_rfl) rfl ?_
          refine Flow.pass_val (.int .i64 ((c1 : Int) + 1)) (Flow.met_none rfl) (fun a W hH => ?_) ?_
          · have e0 := Flow.see_new 17 0 hH.sees (by kernel_rfl) (by kernel_rfl) rfl rfl
            go_simp; first | done | rfl | (rw [IntWalk.i64_in _ (by omega)]; first | done | rfl | omega | (simp; done))
          refine Flow.pass_old (X := .int .i64 ((hi : Int))) 2 (Flow.met_none rfl) (.inl rfl) (by kernel_rfl) (by kernel_rfl) rfl ?_
          refine Flow.pass_val (.bool false) (Flow.met_none rfl) (fun a W hH => ?_) ?_
          · have e0 := Flow.see_new 18 1 hH.sees (by kernel_rfl) (by kernel_rfl) rfl rfl
            have e1 := Flow.see_new 19 2 hH.sees (by kernel_rfl) (by kernel_rfl) rfl rfl
            go_simp; first | done | rfl | omega | (simp; done) | (simp; omega) | exact decide_eq_true (by omega) | exact decide_eq_false (by omega)
          refine Flow.pass_copy 20 3 (Flow.met_none rfl) (.inl rfl) (by kernel_rfl) (by kernel_rfl) rfl rfl (fun _ _ => Flow.kept_eqs _ _) ?_
          refine Flow.pass_skip (fun a W hH => Flow.not_wanted 4 true 21 hH rfl rfl (by kernel_rfl) (by kernel_rfl) rfl rfl) ?_
          refine Flow.pass_skip (fun a W hH => Flow.not_wanted 4 true 21 hH rfl rfl (by kernel_rfl) (by kernel_rfl) rfl rfl) ?_
          refine Flow.pass_skip (fun a W hH => Flow.not_wanted 4 true 21 hH rfl rfl (by kernel_rfl) (by kernel_rfl) rfl rfl) ?_
          refine Flow.pass_skip (fun a W hH => Flow.not_wanted 4 true 21 hH rfl rfl (by kernel_rfl) (by kernel_rfl) rfl rfl) ?_
          refine Flow.pass_skip (fun a W hH => Flow.not_wanted 4 true 21 hH rfl rfl (by kernel_rfl) (by kernel_rfl) rfl rfl) ?_
          refine Flow.pass_skip (fun a W hH => Flow.not_wanted 4 true 21 hH rfl rfl (by kernel_rfl) (by kernel_rfl) rfl rfl) ?_
          refine Flow.pass_skip (fun a W hH => Flow.not_wanted 4 true 21 hH rfl rfl (by kernel_rfl) (by kernel_rfl) rfl rfl) ?_
          refine Flow.pass_skip (fun a W hH => Flow.not_wanted 4 true 21 hH rfl rfl (by kernel_rfl) (by kernel_rfl) rfl rfl) ?_
          refine Flow.pass_skip (fun a W hH => Flow.not_wanted 4 true 21 hH rfl rfl (by kernel_rfl) (by kernel_rfl) rfl rfl) ?_
          refine Flow.pass_skip (fun a W hH => Flow.not_wanted 4 true 21 hH rfl rfl (by kernel_rfl) (by kernel_rfl) rfl rfl) ?_
          refine Flow.pass_skip (fun a W hH => Flow.not_wanted 4 true 21 hH rfl rfl (by kernel_rfl) (by kernel_rfl) rfl rfl) ?_
          refine Flow.pass_skip (fun a W hH => Flow.not_wanted 4 true 21 hH rfl rfl (by kernel_rfl) (by kernel_rfl) rfl rfl) ?_
          refine Flow.pass_skip (fun a W hH => Flow.not_wanted 4 true 21 hH rfl rfl (by kernel_rfl) (by kernel_rfl) rfl rfl) ?_
          refine Flow.pass_skip (fun a W hH => Flow.not_wanted 4 true 21 hH rfl rfl (by kernel_rfl) (by kernel_rfl) rfl rfl) ?_
          refine Flow.pass_val (.bool false) (Flow.met_none rfl) (fun a W hH => ?_) ?_
          · have e0 := Flow.see_new 21 4 hH.sees (by kernel_rfl) (by kernel_rfl) rfl rfl
            have e1 := Flow.see_new 35 18 hH.sees (by kernel_rfl) (by kernel_rfl) rfl rfl
            go_simp; first | done | rfl
          refine Flow.pass_end [none, none, none, none, none, none, none, none, none, none, none, none, none, none, none, none, none, some 17, some 18, some 19, some 20, some 21, some 22, some 23, some 24, some 25, some 26, some 27, some 28, some 29, some 30, some 31, some 32, some 33, some 34, some 35, some 36, none, none, none, none, none, none, none, none, none, none, none, none, none, none, none, none, none, none, none, none, none, none, none, none, none, none, none, none, none, none, none, none, none, none, none, none, none, none, none] (by kernel_rfl) ?_
          intro f gg w9 hB hfa hT hfg
          have h36 : f 36 = _ := (hfg 36 19 (by kernel_rfl)).trans (hT 19 _ (by kernel_rfl) rfl)
          exact hQ1 f w9 ⟨by rw [h36, decide_eq_false hg, Bool.false_and], (Below.refl wr.heap.size wr).drew.trans hB⟩
      intro f W4 ⟨h36, hBW4⟩
      simp only [Reg.sel, h36]
      have hN_W4 := Blk.below hN_wr hBW4 (Blk.lt hN_wr)
      have hC_W4 := hC_wr.trans (Chg.of_ext hBW4)
      clear h36 hBW4
      cases hT : (decide (c1 + 1 < hi) && ltN d1[first + c1]! d1[first + c1 + 1]!) with
      | true =>
        have hlt1 : c1 + 1 < hi := by simp only [Bool.and_eq_true, decide_eq_true_eq] at hT; exact hT.1
        rw [← HC1.out] at hT
        have hT := Lib.hid hT
        obtain ⟨c, hc⟩ : ∃ c, c1 + 1 = c := ⟨_, rfl⟩
        have hcw : IntKind.i64.wrap ((c1 : Int) + 1) = (c : Int) := by rw [IntWalk.i64_in _ (by omega)]; omega
        have hpick := sift_pick (first := first) (d := d1) hge2 (c := c) (by rw [hT.out]; show _ = 2 * root + 1 + 1; omega)
        have hch : c < hi := by omega
        have hcr : root < c := by omega
        have hpick := Lib.hid hpick
        clear hT
        go_wp2_with fail
        refine s_cut [none, none, none, none, none, none, none, none, none, none, none, none, none, none, none, none, none, none, none, none, none, none, none, none, none, none, none, none, none, none, none, none, none, none, none, none, none, none, none, some 39, some 40, some 41, some 42, some 43, some 44, some 45, some 46, some 47, some 48, some 49, some 50, some 51, some 52, none, none, none, none, none, none, none, none, none, none, none, none, none, none, none, none, none, none, none, none, none, none, none] (fun f W => f 52 = .bool (!ltN d1[first + root]! d1[first + c]!) ∧ Below W4.heap.size W4 W) (fun Q1 hQ1 => ?_) ?_
        · skip
          refine Flow.wp_region_flow (W4.heap.size) [] [] (by kernel_rfl) (by kernel_rfl) (Nat.le_refl _) (fun _ h => by cases h) Flow.facts_nil ?_
          refine Flow.pass_old (X := .slice (some ⟨g, 0, none⟩) n cap) 0 (Flow.met_none rfl) (.inl rfl) (by kernel_rfl) (by kernel_rfl) rfl ?_
          refine Flow.pass_old (X := .int .i64 ((first : Int))) 3 (Flow.met_none rfl) (.inl rfl) (by kernel_rfl) (by kernel_rfl) rfl ?_
          refine Flow.pass_old (X := .int .i64 ((root : Int))) 8 (Flow.met_none rfl) (.inl rfl) (by kernel_rfl) (by kernel_rfl) rfl ?_
          refine Flow.pass_val (.int .i64 ((first : Int) + (root : Int))) (Flow.met_none rfl) (fun a W hH => ?_) ?_
          · have e0 := Flow.see_new 40 1 hH.sees (by kernel_rfl) (by kernel_rfl) rfl rfl
            have e1 := Flow.see_new 41 2 hH.sees (by kernel_rfl) (by kernel_rfl) rfl rfl
            go_simp; first | done | rfl | (rw [IntWalk.i64_in _ (by omega)]; first | done | rfl | omega | (simp; done))
          refine Flow.pass_val (.pointer (some ⟨g, (first + root), none⟩)) (Flow.met_none rfl) (fun a W hH => ?_) ?_
          · have e0 := Flow.see_new 39 0 hH.sees (by kernel_rfl) (by kernel_rfl) rfl rfl
            have e1 := Flow.see_new 42 3 hH.sees (by kernel_rfl) (by kernel_rfl) rfl rfl
            exact s_ixS (s := 1) ((first + root)) _ rfl Tryz.underlying74 (by kernel_rfl) (by first | exact e0 | simpa [Act.eval] using e0 | (simp [Act.eval])) (by first | exact e1 | simpa [Act.eval] using e1 | (simp [Act.eval])) (by omega) (by omega) (by omega)
          refine Flow.pass_val (.int .u64 ((d1[(first + root)]! : Nat) : Int)) (Flow.met_none rfl) (fun a W hH => ?_) ?_
          · have e0 := Flow.see_new 43 4 hH.sees (by kernel_rfl) (by kernel_rfl) rfl rfl
            have cc := nr_cell (hN_W4.below ((Below.refl W4.heap.size W4).drew.trans hH.below) hN_W4.lt) ((first + root)) (by omega); go_simp; first | done | rfl
          refine Flow.pass_old (X := .slice (some ⟨g, 0, none⟩) n cap) 0 (Flow.met_none rfl) (.inl rfl) (by kernel_rfl) (by kernel_rfl) rfl ?_
          refine Flow.pass_old (X := .int .i64 ((first : Int))) 3 (Flow.met_none rfl) (.inl rfl) (by kernel_rfl) (by kernel_rfl) rfl ?_
          refine Flow.pass_old (X := .int .i64 ((c : Int))) 9 (Flow.met_none rfl) (.inl rfl) (by kernel_rfl) (by kernel_rfl) rfl ?_
          refine Flow.pass_val (.int .i64 ((first : Int) + (c : Int))) (Flow.met_none rfl) (fun a W hH => ?_) ?_
          · have e0 := Flow.see_new 46 7 hH.sees (by kernel_rfl) (by kernel_rfl) rfl rfl
            have e1 := Flow.see_new 47 8 hH.sees (by kernel_rfl) (by kernel_rfl) rfl rfl
            go_simp; first | done | rfl | (rw [IntWalk.i64_in _ (by omega)]; first | done | rfl | omega | (simp; done))
          refine Flow.pass_val (.pointer (some ⟨g, (first + c), none⟩)) (Flow.met_none rfl) (fun a W hH => ?_) ?_
          · have e0 := Flow.see_new 45 6 hH.sees (by kernel_rfl) (by kernel_rfl) rfl rfl
            have e1 := Flow.see_new 48 9 hH.sees (by kernel_rfl) (by kernel_rfl) rfl rfl
            exact s_ixS (s := 1) ((first + c)) _ rfl Tryz.underlying74 (by kernel_rfl) (by first | exact e0 | simpa [Act.eval] using e0 | (simp [Act.eval])) (by first | exact e1 | simpa [Act.eval] using e1 | (simp [Act.eval])) (by omega) (by omega) (by omega)
          refine Flow.pass_val (.int .u64 ((d1[(first + c)]! : Nat) : Int)) (Flow.met_none rfl) (fun a W hH => ?_) ?_
          · have e0 := Flow.see_new 49 10 hH.sees (by kernel_rfl) (by kernel_rfl) rfl rfl
            have cc := nr_cell (hN_W4.below ((Below.refl W4.heap.size W4).drew.trans hH.below) hN_W4.lt) ((first + c)) (by omega); go_simp; first | done | rfl
          refine Flow.pass_step (Reg.eqs (.bool (ltN (d1[(first + root)]!) (d1[(first + c)]!)))) (fun _ _ => Flow.kept_eqs _ _) (Flow.met_none rfl) (fun a W hH => ?_) ?_
          · have e0 := Flow.see_new 44 5 hH.sees (by kernel_rfl) (by kernel_rfl) rfl rfl
            have e1 := Flow.see_new 50 11 hH.sees (by kernel_rfl) (by kernel_rfl) rfl rfl
            refine Reg.wp_call rfl Tryz.func162 rfl (by kernel_rfl) (by simp [Act.eval, e0, e1]) (lessN (d1[(first + root)]!) (d1[(first + c)]!) W) ?_
            rintro e w' ⟨rfl, rfl⟩
            exact ⟨_, rfl, _, rfl, Ext.refl _, rfl⟩
          refine Flow.pass_val (.bool (!(ltN (d1[(first + root)]!) (d1[(first + c)]!)))) (Flow.met_none rfl) (fun a W hH => ?_) ?_
          · have e0 := Flow.see_new 51 12 hH.sees (by kernel_rfl) (by kernel_rfl) rfl rfl
            go_simp; first | done | rfl
          refine Flow.pass_end [none, none, none, none, none, none, none, none, none, none, none, none, none, none, none, none, none, none, none, none, none, none, none, none, none, none, none, none, none, none, none, none, none, none, none, none, none, none, none, some 39, some 40, some 41, some 42, some 43, some 44, some 45, some 46, some 47, some 48, some 49, some 50, some 51, some 52, none, none, none, none, none, none, none, none, none, none, none, none, none, none, none, none, none, none, none, none, none, none, none] (by kernel_rfl) ?_
          intro f gg w9 hB hfa hT hfg
          have h52 : f 52 = _ := (hfg 52 13 (by kernel_rfl)).trans (hT 13 _ (by kernel_rfl) rfl)
          exact hQ1 f w9 ⟨h52, (Below.refl W4.heap.size W4).drew.trans hB⟩
        intro f W5 ⟨h52, hBW5⟩
        simp only [Reg.sel, h52]
        have hN_W5 := Blk.below hN_W4 hBW5 (Blk.lt hN_W4)
        have hC_W5 := hC_W4.trans (Chg.of_ext hBW5)
        clear h52 hBW5
        cases hL : ltN d1[first + root]! d1[first + c]! with
        | false =>
          have hstop := hpick.out
          rw [hL] at hstop
          have hstop := Lib.hid hstop
          clear hpick hL
          go_wp2
          refine bodyPost_ret (results_none rfl _ _ _) rfl ?_
          exact ⟨rfl, d1, by rw [← hI.out, hstop.out]; rfl, hN_W5, hC_W5⟩
        | true =>
          have hgo := hpick.out
          rw [hL] at hgo
          have hgo := Lib.hid hgo
          clear hpick hL
          go_upto_region 6 with (fail)
          refine Flow.wp_region_flow (g) [(21, fun b => b = g), (23, fun b => b = g)] [(13, fun W => NR W g d1 R), (19, fun W => NR W g d1 R), (21, fun W => NR W g d1 R), (24, fun W => Chg (OnlyG g) W5 W)] (by kernel_rfl) (by kernel_rfl) (Nat.le_of_lt hN_W5.lt) (Flow.nz_cons (by rintro b rfl; exact Nat.le_refl _) (Flow.nz_cons (by rintro b rfl; exact Nat.le_refl _) Flow.nz_nil)) (Flow.facts_cons (hN_W5.drew) (Flow.kept_blk id) (Flow.fz_cons (Flow.no_follow (by kernel_rfl)) (Flow.fz_cons (Flow.no_follow (by kernel_rfl)) Flow.fz_nil)) (Flow.facts_cons (hN_W5.drew) (Flow.kept_blk id) (Flow.fz_cons (Flow.no_follow (by kernel_rfl)) (Flow.fz_cons (Flow.no_follow (by kernel_rfl)) Flow.fz_nil)) (Flow.facts_cons (hN_W5.drew) (Flow.kept_blk id) (Flow.fz_cons (Flow.no_follow (by kernel_rfl)) (Flow.fz_cons (Flow.no_follow (by kernel_rfl)) Flow.fz_nil)) (Flow.facts_cons ((Chg.refl _ _).drew) (fun _ _ c h => onlyg_trans h c (by first | exact fun _ hj => hj | exact fun _ hj => hj.elim)) (Flow.fz_cons (fun _ => fun _ _ c h => onlyg_trans h c (by first | exact fun _ hj => hj | exact fun _ hj => hj.elim)) (Flow.fz_cons (fun _ => fun _ _ c h => onlyg_trans h c (by first | exact fun _ hj => hj | exact fun _ hj => hj.elim)) Flow.fz_nil)) Flow.facts_nil)))) ?_
          refine Flow.pass_old (X := .slice (some ⟨g, 0, none⟩) n cap) 0 (Flow.met_none rfl) (.inl rfl) (by kernel_rfl) (by kernel_rfl) rfl ?_
          refine Flow.pass_old (X := .int .i64 ((first : Int))) 3 (Flow.met_none rfl) (.inl rfl) (by kernel_rfl) (by kernel_rfl) rfl ?_
          refine Flow.pass_old (X := .int .i64 ((root : Int))) 8 (Flow.met_none rfl) (.inl rfl) (by kernel_rfl) (by kernel_rfl) rfl ?_
          refine Flow.pass_val (.int .i64 ((first : Int) + (root : Int))) (Flow.met_none rfl) (fun a W hH => ?_) ?_
          · have e0 := Flow.see_new 54 1 hH.sees (by kernel_rfl) (by kernel_rfl) rfl rfl
            have e1 := Flow.see_new 55 2 hH.sees (by kernel_rfl) (by kernel_rfl) rfl rfl
            go_simp; first | done | rfl | (rw [IntWalk.i64_in _ (by omega)]; first | done | rfl | omega | (simp; done))
          refine Flow.pass_old (X := .slice (some ⟨g, 0, none⟩) n cap) 0 (Flow.met_none rfl) (.inl rfl) (by kernel_rfl) (by kernel_rfl) rfl ?_
          refine Flow.pass_old (X := .int .i64 ((first : Int))) 3 (Flow.met_none rfl) (.inl rfl) (by kernel_rfl) (by kernel_rfl) rfl ?_
          refine Flow.pass_old (X := .int .i64 ((c : Int))) 9 (Flow.met_none rfl) (.inl rfl) (by kernel_rfl) (by kernel_rfl) rfl ?_
          refine Flow.pass_val (.int .i64 ((first : Int) + (c : Int))) (Flow.met_none rfl) (fun a W hH => ?_) ?_
          · have e0 := Flow.see_new 58 5 hH.sees (by kernel_rfl) (by kernel_rfl) rfl rfl
            have e1 := Flow.see_new 59 6 hH.sees (by kernel_rfl) (by kernel_rfl) rfl rfl
            go_simp; first | done | rfl | (rw [IntWalk.i64_in _ (by omega)]; first | done | rfl | omega | (simp; done))
          refine Flow.pass_old (X := .slice (some ⟨g, 0, none⟩) n cap) 0 (Flow.met_none rfl) (.inl rfl) (by kernel_rfl) (by kernel_rfl) rfl ?_
          refine Flow.pass_old (X := .int .i64 ((first : Int))) 3 (Flow.met_none rfl) (.inl rfl) (by kernel_rfl) (by kernel_rfl) rfl ?_
          refine Flow.pass_old (X := .int .i64 ((c : Int))) 9 (Flow.met_none rfl) (.inl rfl) (by kernel_rfl) (by kernel_rfl) rfl ?_
          refine Flow.pass_val (.int .i64 ((first : Int) + (c : Int))) (Flow.met_none rfl) (fun a W hH => ?_) ?_
          · have e0 := Flow.see_new 62 9 hH.sees (by kernel_rfl) (by kernel_rfl) rfl rfl
            have e1 := Flow.see_new 63 10 hH.sees (by kernel_rfl) (by kernel_rfl) rfl rfl
            go_simp; first | done | rfl | (rw [IntWalk.i64_in _ (by omega)]; first | done | rfl | omega | (simp; done))
          refine Flow.pass_val (.pointer (some ⟨g, (first + c), none⟩)) (Flow.met_none rfl) (fun a W hH => ?_) ?_
          · have e0 := Flow.see_new 61 8 hH.sees (by kernel_rfl) (by kernel_rfl) rfl rfl
            have e1 := Flow.see_new 64 11 hH.sees (by kernel_rfl) (by kernel_rfl) rfl rfl
            exact s_ixS (s := 1) ((first + c)) _ rfl Tryz.underlying74 (by kernel_rfl) (by first | exact e0 | simpa [Act.eval] using e0 | (simp [Act.eval])) (by first | exact e1 | simpa [Act.eval] using e1 | (simp [Act.eval])) (by omega) (by omega) (by omega)
          refine Flow.pass_val (.int .u64 ((d1[(first + c)]! : Nat) : Int)) (Flow.met_none rfl) (fun a W hH => ?_) ?_
          · have e0 := Flow.see_new 65 12 hH.sees (by kernel_rfl) (by kernel_rfl) rfl rfl
            have fa0 : (fun W => NR W g d1 R) W := hH.fact _ (List.mem_of_getElem? (i := 0) rfl) rfl
            have cc := nr_cell fa0 ((first + c)) (by omega); go_simp; first | done | rfl
          refine Flow.pass_old (X := .slice (some ⟨g, 0, none⟩) n cap) 0 (Flow.met_none rfl) (.inl rfl) (by kernel_rfl) (by kernel_rfl) rfl ?_
          refine Flow.pass_old (X := .int .i64 ((first : Int))) 3 (Flow.met_none rfl) (.inl rfl) (by kernel_rfl) (by kernel_rfl) rfl ?_
          refine Flow.pass_old (X := .int .i64 ((root : Int))) 8 (Flow.met_none rfl) (.inl rfl) (by kernel_rfl) (by kernel_rfl) rfl ?_
          refine Flow.pass_val (.int .i64 ((first : Int) + (root : Int))) (Flow.met_none rfl) (fun a W hH => ?_) ?_
          · have e0 := Flow.see_new 68 15 hH.sees (by kernel_rfl) (by kernel_rfl) rfl rfl
            have e1 := Flow.see_new 69 16 hH.sees (by kernel_rfl) (by kernel_rfl) rfl rfl
            go_simp; first | done | rfl | (rw [IntWalk.i64_in _ (by omega)]; first | done | rfl | omega | (simp; done))
          refine Flow.pass_val (.pointer (some ⟨g, (first + root), none⟩)) (Flow.met_none rfl) (fun a W hH => ?_) ?_
          · have e0 := Flow.see_new 67 14 hH.sees (by kernel_rfl) (by kernel_rfl) rfl rfl
            have e1 := Flow.see_new 70 17 hH.sees (by kernel_rfl) (by kernel_rfl) rfl rfl
            exact s_ixS (s := 1) ((first + root)) _ rfl Tryz.underlying74 (by kernel_rfl) (by first | exact e0 | simpa [Act.eval] using e0 | (simp [Act.eval])) (by first | exact e1 | simpa [Act.eval] using e1 | (simp [Act.eval])) (by omega) (by omega) (by omega)
          refine Flow.pass_val (.int .u64 ((d1[(first + root)]! : Nat) : Int)) (Flow.met_none rfl) (fun a W hH => ?_) ?_
          · have e0 := Flow.see_new 71 18 hH.sees (by kernel_rfl) (by kernel_rfl) rfl rfl
            have fa1 : (fun W => NR W g d1 R) W := hH.fact _ (List.mem_of_getElem? (i := 1) rfl) rfl
            have cc := nr_cell fa1 ((first + root)) (by omega); go_simp; first | done | rfl
          refine Flow.pass_val (.pointer (some ⟨g, (first + root), none⟩)) (Flow.met_none rfl) (fun a W hH => ?_) ?_
          · have e0 := Flow.see_new 53 0 hH.sees (by kernel_rfl) (by kernel_rfl) rfl rfl
            have e1 := Flow.see_new 56 3 hH.sees (by kernel_rfl) (by kernel_rfl) rfl rfl
            exact s_ixS (s := 1) ((first + root)) _ rfl Tryz.underlying74 (by kernel_rfl) (by first | exact e0 | simpa [Act.eval] using e0 | (simp [Act.eval])) (by first | exact e1 | simpa [Act.eval] using e1 | (simp [Act.eval])) (by omega) (by omega) (by omega)
          refine Flow.pass_lin [23] (fun _ W => NR W g (d1.setIfInBounds ((first + root)) (d1[(first + c)]!)) R) (Flow.kept_lin [23] (fun _ _ _ c h => h.chg c id) (Flow.lz_cons (Flow.no_follow (by kernel_rfl)) (Flow.lz_cons (fun _ => .inl rfl) Flow.lz_nil))) (Flow.met_none rfl) (fun a W hH => ?_) ?_
          · have e0 := Flow.see_new 73 20 hH.sees (by kernel_rfl) (by kernel_rfl) rfl rfl
            have e1 := Flow.see_new 66 13 hH.sees (by kernel_rfl) (by kernel_rfl) rfl rfl
            have fa2 : (fun W => NR W g d1 R) W := hH.fact _ (List.mem_of_getElem? (i := 2) rfl) rfl
            refine s_skip (s_store rfl (by kernel_rfl) fa2 e0 e1 (nr_size (by omega))) ?_
            exact ⟨_, rfl, Chg.grown (s_grown _ _ _ _) (by rintro j h; cases h; rfl), nr_set fa2 _ (by omega) _⟩
          refine Flow.pass_val (.pointer (some ⟨g, (first + c), none⟩)) (Flow.met_none rfl) (fun a W hH => ?_) ?_
          · have e0 := Flow.see_new 57 4 hH.sees (by kernel_rfl) (by kernel_rfl) rfl rfl
            have e1 := Flow.see_new 60 7 hH.sees (by kernel_rfl) (by kernel_rfl) rfl rfl
            exact s_ixS (s := 1) ((first + c)) _ rfl Tryz.underlying74 (by kernel_rfl) (by first | exact e0 | simpa [Act.eval] using e0 | (simp [Act.eval])) (by first | exact e1 | simpa [Act.eval] using e1 | (simp [Act.eval])) (by omega) (by omega) (by omega)
          refine Flow.pass_gen (fun _ W => NR W g ((d1.setIfInBounds ((first + root)) (d1[(first + c)]!)).setIfInBounds ((first + c)) (d1[(first + root)]!)) R) (Flow.kept_of (fun _ _ _ c h => h.chg c id) (Flow.kz_cons (Flow.no_follow (by kernel_rfl)) (Flow.kz_cons (Flow.no_follow (by kernel_rfl)) Flow.kz_nil))) (Flow.met_none rfl) (fun a W hH => ?_) ?_
          · have e0 := Flow.see_new 74 22 hH.sees (by kernel_rfl) (by kernel_rfl) rfl rfl
            have e1 := Flow.see_new 72 19 hH.sees (by kernel_rfl) (by kernel_rfl) rfl rfl
            obtain ⟨_, hP⟩ := Flow.past_lin 21 hH.past (by kernel_rfl) (by kernel_rfl) rfl (by kernel_rfl)
            refine s_skip (s_store rfl (by kernel_rfl) hP e0 e1 (nr_size (by rw [Array.size_setIfInBounds]; omega))) ?_
            exact ⟨_, rfl, Chg.grown (s_grown _ _ _ _) (by rintro j h; cases h; rfl), nr_set hP _ (by rw [Array.size_setIfInBounds]; omega) _⟩
          refine Flow.pass_end [none, none, none, none, none, none, none, none, none, none, none, none, none, none, none, none, none, none, none, none, none, none, none, none, none, none, none, none, none, none, none, none, none, none, none, none, none, none, none, none, none, none, none, none, none, none, none, none, none, none, none, none, none, some 53, some 54, some 55, some 56, some 57, some 58, some 59, some 60, some 61, some 62, some 63, some 64, some 65, some 66, some 67, some 68, some 69, some 70, some 71, some 72, some 73, some 74, none] (by kernel_rfl) ?_
          intro f gg w9 hB hfa hT hfg
          have F3 : (fun W => Chg (OnlyG g) W5 W) w9 := hfa _ (List.mem_of_getElem? (i := 3) rfl) (Nat.le_refl _)
          have hN_W6 : NR w9 g (Sort.swp d1 (first + root) (first + c)) R := hT 23 _ (by kernel_rfl) rfl
          have hC_W6 := hC_W5.trans F3
          simp only [Reg.sel]
          obtain ⟨W6, hWW6⟩ : ∃ W, W = w9 := ⟨_, rfl⟩
          subst hWW6
          clear hT hfg hfa hB F3
          go_wp2
          go_roundw
          case rel => first | exact ⟨c, _, rfl, by omega, Lib.hid (by rw [← hI.out, hgo.out]; rfl), by rw [swp_size]; exact hn1, hN_W6, hC_W6⟩ | ((repeat apply Exists.intro); refine ⟨?_, rfl⟩; exact ⟨c, _, rfl, by omega, Lib.hid (by rw [← hI.out, hgo.out]; rfl), by rw [swp_size]; exact hn1, hN_W6, hC_W6⟩)
          case measure => first | (simp [intOf]; done) | (simp [intOf]; omega) | (simp only [intOf]; omega)
      | false =>
        rw [← HC1.out] at hT
        have hT := Lib.hid hT
        have hpick := sift_pick (first := first) (d := d1) hge2 (c := c1) (by rw [hT.out]; show _ = 2 * root + 1; omega)
        have hch : c1 < hi := by omega
        have hcr : root < c1 := by omega
        have hpick := Lib.hid hpick
        clear hT
        go_upto_region 5 with (fail)
        refine s_cut [none, none, none, none, none, none, none, none, none, none, none, none, none, none, none, none, none, none, none, none, none, none, none, none, none, none, none, none, none, none, none, none, none, none, none, none, none, none, none, some 39, some 40, some 41, some 42, some 43, some 44, some 45, some 46, some 47, some 48, some 49, some 50, some 51, some 52, none, none, none, none, none, none, none, none, none, none, none, none, none, none, none, none, none, none, none, none, none, none, none] (fun f W => f 52 = .bool (!ltN d1[first + root]! d1[first + c1]!) ∧ Below W4.heap.size W4 W) (fun Q1 hQ1 => ?_) ?_
        · skip
          refine Flow.wp_region_flow (W4.heap.size) [] [] (by kernel_rfl) (by kernel_rfl) (Nat.le_refl _) (fun _ h => by cases h) Flow.facts_nil ?_
          refine Flow.pass_old (X := .slice (some ⟨g, 0, none⟩) n cap) 0 (Flow.met_none rfl) (.inl rfl) (by kernel_rfl) (by kernel_rfl) rfl ?_
          refine Flow.pass_old (X := .int .i64 ((first : Int))) 3 (Flow.met_none rfl) (.inl rfl) (by kernel_rfl) (by kernel_rfl) rfl ?_
          refine Flow.pass_old (X := .int .i64 ((root : Int))) 8 (Flow.met_none rfl) (.inl rfl) (by kernel_rfl) (by kernel_rfl) rfl ?_
          refine Flow.pass_val (.int .i64 ((first : Int) + (root : Int))) (Flow.met_none rfl) (fun a W hH => ?_) ?_
          · have e0 := Flow.see_new 40 1 hH.sees (by kernel_rfl) (by kernel_rfl) rfl rfl
            have e1 := Flow.see_new 41 2 hH.sees (by kernel_rfl) (by kernel_rfl) rfl rfl
            go_simp; first | done | rfl | (rw [IntWalk.i64_in _ (by omega)]; first | done | rfl | omega | (simp; done))
          refine Flow.pass_val (.pointer (some ⟨g, (first + root), none⟩)) (Flow.met_none rfl) (fun a W hH => ?_) ?_
          · have e0 := Flow.see_new 39 0 hH.sees (by kernel_rfl) (by kernel_rfl) rfl rfl
            have e1 := Flow.see_new 42 3 hH.sees (by kernel_rfl) (by kernel_rfl) rfl rfl
            exact s_ixS (s := 1) ((first + root)) _ rfl Tryz.underlying74 (by kernel_rfl) (by first | exact e0 | simpa [Act.eval] using e0 | (simp [Act.eval])) (by first | exact e1 | simpa [Act.eval] using e1 | (simp [Act.eval])) (by omega) (by omega) (by omega)
          refine Flow.pass_val (.int .u64 ((d1[(first + root)]! : Nat) : Int)) (Flow.met_none rfl) (fun a W hH => ?_) ?_
          · have e0 := Flow.see_new 43 4 hH.sees (by kernel_rfl) (by kernel_rfl) rfl rfl
            have cc := nr_cell (hN_W4.below ((Below.refl W4.heap.size W4).drew.trans hH.below) hN_W4.lt) ((first + root)) (by omega); go_simp; first | done | rfl
          refine Flow.pass_old (X := .slice (some ⟨g, 0, none⟩) n cap) 0 (Flow.met_none rfl) (.inl rfl) (by kernel_rfl) (by kernel_rfl) rfl ?_
          refine Flow.pass_old (X := .int .i64 ((first : Int))) 3 (Flow.met_none rfl) (.inl rfl) (by kernel_rfl) (by kernel_rfl) rfl ?_
          refine Flow.pass_old (X := .int .i64 ((c1 : Int))) 9 (Flow.met_none rfl) (.inl rfl) (by kernel_rfl) (by kernel_rfl) rfl ?_
          refine Flow.pass_val (.int .i64 ((first : Int) + (c1 : Int))) (Flow.met_none rfl) (fun a W hH => ?_) ?_
          · have e0 := Flow.see_new 46 7 hH.sees (by kernel_rfl) (by kernel_rfl) rfl rfl
            have e1 := Flow.see_new 47 8 hH.sees (by kernel_rfl) (by kernel_rfl) rfl rfl
            go_simp; first | done | rfl | (rw [IntWalk.i64_in _ (by omega)]; first | done | rfl | omega | (simp; done))
          refine Flow.pass_val (.pointer (some ⟨g, (first + c1), none⟩)) (Flow.met_none rfl) (fun a W hH => ?_) ?_
          · have e0 := Flow.see_new 45 6 hH.sees (by kernel_rfl) (by kernel_rfl) rfl rfl
            have e1 := Flow.see_new 48 9 hH.sees (by kernel_rfl) (by kernel_rfl) rfl rfl
            exact s_ixS (s := 1) ((first + c1)) _ rfl Tryz.underlying74 (by kernel_rfl) (by first | exact e0 | simpa [Act.eval] using e0 | (simp [Act.eval])) (by first | exact e1 | simpa [Act.eval] using e1 | (simp [Act.eval])) (by omega) (by omega) (by omega)
          refine Flow.pass_val (.int .u64 ((d1[(first + c1)]! : Nat) : Int)) (Flow.met_none rfl) (fun a W hH => ?_) ?_
          · have e0 := Flow.see_new 49 10 hH.sees (by kernel_rfl) (by kernel_rfl) rfl rfl
            have cc := nr_cell (hN_W4.below ((Below.refl W4.heap.size W4).drew.trans hH.below) hN_W4.lt) ((first + c1)) (by omega); go_simp; first | done | rfl
          refine Flow.pass_step (Reg.eqs (.bool (ltN (d1[(first + root)]!) (d1[(first + c1)]!)))) (fun _ _ => Flow.kept_eqs _ _) (Flow.met_none rfl) (fun a W hH => ?_) ?_
          · have e0 := Flow.see_new 44 5 hH.sees (by kernel_rfl) (by kernel_rfl) rfl rfl
            have e1 := Flow.see_new 50 11 hH.sees (by kernel_rfl) (by kernel_rfl) rfl rfl
            refine Reg.wp_call rfl Tryz.func162 rfl (by kernel_rfl) (by simp [Act.eval, e0, e1]) (lessN (d1[(first + root)]!) (d1[(first + c1)]!) W) ?_
            rintro e w' ⟨rfl, rfl⟩
            exact ⟨_, rfl, _, rfl, Ext.refl _, rfl⟩
          refine Flow.pass_val (.bool (!(ltN (d1[(first + root)]!) (d1[(first + c1)]!)))) (Flow.met_none rfl) (fun a W hH => ?_) ?_
          · have e0 := Flow.see_new 51 12 hH.sees (by kernel_rfl) (by kernel_rfl) rfl rfl
            go_simp; first | done | rfl
          refine Flow.pass_end [none, none, none, none, none, none, none, none, none, none, none, none, none, none, none, none, none, none, none, none, none, none, none, none, none, none, none, none, none, none, none, none, none, none, none, none, none, none, none, some 39, some 40, some 41, some 42, some 43, some 44, some 45, some 46, some 47, some 48, some 49, some 50, some 51, some 52, none, none, none, none, none, none, none, none, none, none, none, none, none, none, none, none, none, none, none, none, none, none, none] (by kernel_rfl) ?_
          intro f gg w9 hB hfa hT hfg
          have h52 : f 52 = _ := (hfg 52 13 (by kernel_rfl)).trans (hT 13 _ (by kernel_rfl) rfl)
          exact hQ1 f w9 ⟨h52, (Below.refl W4.heap.size W4).drew.trans hB⟩
        intro f W5 ⟨h52, hBW5⟩
        simp only [Reg.sel, h52]
        have hN_W5 := Blk.below hN_W4 hBW5 (Blk.lt hN_W4)
        have hC_W5 := hC_W4.trans (Chg.of_ext hBW5)
        clear h52 hBW5
        cases hL : ltN d1[first + root]! d1[first + c1]! with
        | false =>
          have hstop := hpick.out
          rw [hL] at hstop
          have hstop := Lib.hid hstop
          clear hpick hL
          go_wp2
          refine bodyPost_ret (results_none rfl _ _ _) rfl ?_
          exact ⟨rfl, d1, by rw [← hI.out, hstop.out]; rfl, hN_W5, hC_W5⟩
        | true =>
          have hgo := hpick.out
          rw [hL] at hgo
          have hgo := Lib.hid hgo
          clear hpick hL
          go_upto_region 6 with (fail)
          refine Flow.wp_region_flow (g) [(21, fun b => b = g), (23, fun b => b = g)] [(13, fun W => NR W g d1 R), (19, fun W => NR W g d1 R), (21, fun W => NR W g d1 R), (24, fun W => Chg (OnlyG g) W5 W)] (by kernel_rfl) (by kernel_rfl) (Nat.le_of_lt hN_W5.lt) (Flow.nz_cons (by rintro b rfl; exact Nat.le_refl _) (Flow.nz_cons (by rintro b rfl; exact Nat.le_refl _) Flow.nz_nil)) (Flow.facts_cons (hN_W5.drew) (Flow.kept_blk id) (Flow.fz_cons (Flow.no_follow (by kernel_rfl)) (Flow.fz_cons (Flow.no_follow (by kernel_rfl)) Flow.fz_nil)) (Flow.facts_cons (hN_W5.drew) (Flow.kept_blk id) (Flow.fz_cons (Flow.no_follow (by kernel_rfl)) (Flow.fz_cons (Flow.no_follow (by kernel_rfl)) Flow.fz_nil)) (Flow.facts_cons (hN_W5.drew) (Flow.kept_blk id) (Flow.fz_cons (Flow.no_follow (by kernel_rfl)) (Flow.fz_cons (Flow.no_follow (by kernel_rfl)) Flow.fz_nil)) (Flow.facts_cons ((Chg.refl _ _).drew) (fun _ _ c h => onlyg_trans h c (by first | exact fun _ hj => hj | exact fun _ hj => hj.elim)) (Flow.fz_cons (fun _ => fun _ _ c h => onlyg_trans h c (by first | exact fun _ hj => hj | exact fun _ hj => hj.elim)) (Flow.fz_cons (fun _ => fun _ _ c h => onlyg_trans h c (by first | exact fun _ hj => hj | exact fun _ hj => hj.elim)) Flow.fz_nil)) Flow.facts_nil)))) ?_
          refine Flow.pass_old (X := .slice (some ⟨g, 0, none⟩) n cap) 0 (Flow.met_none rfl) (.inl rfl) (by kernel_rfl) (by kernel_rfl) rfl ?_
          refine Flow.pass_old (X := .int .i64 ((first : Int))) 3 (Flow.met_none rfl) (.inl rfl) (by kernel_rfl) (by kernel_rfl) rfl ?_
          refine Flow.pass_old (X := .int .i64 ((root : Int))) 8 (Flow.met_none rfl) (.inl rfl) (by kernel_rfl) (by kernel_rfl) rfl ?_
          refine Flow.pass_val (.int .i64 ((first : Int) + (root : Int))) (Flow.met_none rfl) (fun a W hH => ?_) ?_
          · have e0 := Flow.see_new 54 1 hH.sees (by kernel_rfl) (by kernel_rfl) rfl rfl
            have e1 := Flow.see_new 55 2 hH.sees (by kernel_rfl) (by kernel_rfl) rfl rfl
            go_simp; first | done | rfl | (rw [IntWalk.i64_in _ (by omega)]; first | done | rfl | omega | (simp; done))
          refine Flow.pass_old (X := .slice (some ⟨g, 0, none⟩) n cap) 0 (Flow.met_none rfl) (.inl rfl) (by kernel_rfl) (by kernel_rfl) rfl ?_
          refine Flow.pass_old (X := .int .i64 ((first : Int))) 3 (Flow.met_none rfl) (.inl rfl) (by kernel_rfl) (by kernel_rfl) rfl ?_
          refine Flow.pass_old (X := .int .i64 ((c1 : Int))) 9 (Flow.met_none rfl) (.inl rfl) (by kernel_rfl) (by kernel_rfl) rfl ?_
          refine Flow.pass_val (.int .i64 ((first : Int) + (c1 : Int))) (Flow.met_none rfl) (fun a W hH => ?_) ?_
          · have e0 := Flow.see_new 58 5 hH.sees (by kernel_rfl) (by kernel_rfl) rfl rfl
            have e1 := Flow.see_new 59 6 hH.sees (by kernel_rfl) (by kernel_rfl) rfl rfl
            go_simp; first | done | rfl | (rw [IntWalk.i64_in _ (by omega)]; first | done | rfl | omega | (simp; done))
          refine Flow.pass_old (X := .slice (some ⟨g, 0, none⟩) n cap) 0 (Flow.met_none rfl) (.inl rfl) (by kernel_rfl) (by kernel_rfl) rfl ?_
          refine Flow.pass_old (X := .int .i64 ((first : Int))) 3 (Flow.met_none rfl) (.inl rfl) (by kernel_rfl) (by kernel_rfl) rfl ?_
          refine Flow.pass_old (X := .int .i64 ((c1 : Int))) 9 (Flow.met_none rfl) (.inl rfl) (by kernel_rfl) (by kernel_rfl) rfl ?_
          refine Flow.pass_val (.int .i64 ((first : Int) + (c1 : Int))) (Flow.met_none rfl) (fun a W hH => ?_) ?_
          · have e0 := Flow.see_new 62 9 hH.sees (by kernel_rfl) (by kernel_rfl) rfl rfl
            have e1 := Flow.see_new 63 10 hH.sees (by kernel_rfl) (by kernel_rfl) rfl rfl
            go_simp; first | done | rfl | (rw [IntWalk.i64_in _ (by omega)]; first | done | rfl | omega | (simp; done))
          refine Flow.pass_val (.pointer (some ⟨g, (first + c1), none⟩)) (Flow.met_none rfl) (fun a W hH => ?_) ?_
          · have e0 := Flow.see_new 61 8 hH.sees (by kernel_rfl) (by kernel_rfl) rfl rfl
            have e1 := Flow.see_new 64 11 hH.sees (by kernel_rfl) (by kernel_rfl) rfl rfl
            exact s_ixS (s := 1) ((first + c1)) _ rfl Tryz.underlying74 (by kernel_rfl) (by first | exact e0 | simpa [Act.eval] using e0 | (simp [Act.eval])) (by first | exact e1 | simpa [Act.eval] using e1 | (simp [Act.eval])) (by omega) (by omega) (by omega)
          refine Flow.pass_val (.int .u64 ((d1[(first + c1)]! : Nat) : Int)) (Flow.met_none rfl) (fun a W hH => ?_) ?_
          · have e0 := Flow.see_new 65 12 hH.sees (by kernel_rfl) (by kernel_rfl) rfl rfl
            have fa0 : (fun W => NR W g d1 R) W := hH.fact _ (List.mem_of_getElem? (i := 0) rfl) rfl
            have cc := nr_cell fa0 ((first + c1)) (by omega); go_simp; first | done | rfl
          refine Flow.pass_old (X := .slice (some ⟨g, 0, none⟩) n cap) 0 (Flow.met_none rfl) (.inl rfl) (by kernel_rfl) (by kernel_rfl) rfl ?_
          refine Flow.pass_old (X := .int .i64 ((first : Int))) 3 (Flow.met_none rfl) (.inl rfl) (by kernel_rfl) (by kernel_rfl) rfl ?_
          refine Flow.pass_old (X := .int .i64 ((root : Int))) 8 (Flow.met_none rfl) (.inl rfl) (by kernel_rfl) (by kernel_rfl) rfl ?_
          refine Flow.pass_val (.int .i64 ((first : Int) + (root : Int))) (Flow.met_none rfl) (fun a W hH => ?_) ?_
          · have e0 := Flow.see_new 68 15 hH.sees (by kernel_rfl) (by kernel_rfl) rfl rfl
            have e1 := Flow.see_new 69 16 hH.sees (by kernel_rfl) (by kernel_rfl) rfl rfl
            go_simp; first | done | rfl | (rw [IntWalk.i64_in _ (by omega)]; first | done | rfl | omega | (simp; done))
          refine Flow.pass_val (.pointer (some ⟨g, (first + root), none⟩)) (Flow.met_none rfl) (fun a W hH => ?_) ?_
          · have e0 := Flow.see_new 67 14 hH.sees (by kernel_rfl) (by kernel_rfl) rfl rfl
            have e1 := Flow.see_new 70 17 hH.sees (by kernel_rfl) (by kernel_rfl) rfl rfl
            exact s_ixS (s := 1) ((first + root)) _ rfl Tryz.underlying74 (by kernel_rfl) (by first | exact e0 | simpa [Act.eval] using e0 | (simp [Act.eval])) (by first | exact e1 | simpa [Act.eval] using e1 | (simp [Act.eval])) (by omega) (by omega) (by omega)
          refine Flow.pass_val (.int .u64 ((d1[(first + root)]! : Nat) : Int)) (Flow.met_none rfl) (fun a W hH => ?_) ?_
          · have e0 := Flow.see_new 71 18 hH.sees (by kernel_rfl) (by kernel_rfl) rfl rfl
            have fa1 : (fun W => NR W g d1 R) W := hH.fact _ (List.mem_of_getElem? (i := 1) rfl) rfl
            have cc := nr_cell fa1 ((first + root)) (by omega); go_simp; first | done | rfl
          refine Flow.pass_val (.pointer (some ⟨g, (first + root), none⟩)) (Flow.met_none rfl) (fun a W hH => ?_) ?_
          · have e0 := Flow.see_new 53 0 hH.sees (by kernel_rfl) (by kernel_rfl) rfl rfl
            have e1 := Flow.see_new 56 3 hH.sees (by kernel_rfl) (by kernel_rfl) rfl rfl
            exact s_ixS (s := 1) ((first + root)) _ rfl Tryz.underlying74 (by kernel_rfl) (by first | exact e0 | simpa [Act.eval] using e0 | (simp [Act.eval])) (by first | exact e1 | simpa [Act.eval] using e1 | (simp [Act.eval])) (by omega) (by omega) (by omega)
          refine Flow.pass_lin [23] (fun _ W => NR W g (d1.setIfInBounds ((first + root)) (d1[(first + c1)]!)) R) (Flow.kept_lin [23] (fun _ _ _ c h => h.chg c id) (Flow.lz_cons (Flow.no_follow (by kernel_rfl)) (Flow.lz_cons (fun _ => .inl rfl) Flow.lz_nil))) (Flow.met_none rfl) (fun a W hH => ?_) ?_
          · have e0 := Flow.see_new 73 20 hH.sees (by kernel_rfl) (by kernel_rfl) rfl rfl
            have e1 := Flow.see_new 66 13 hH.sees (by kernel_rfl) (by kernel_rfl) rfl rfl
            have fa2 : (fun W => NR W g d1 R) W := hH.fact _ (List.mem_of_getElem? (i := 2) rfl) rfl
            refine s_skip (s_store rfl (by kernel_rfl) fa2 e0 e1 (nr_size (by omega))) ?_
            exact ⟨_, rfl, Chg.grown (s_grown _ _ _ _) (by rintro j h; cases h; rfl), nr_set fa2 _ (by omega) _⟩
          refine Flow.pass_val (.pointer (some ⟨g, (first + c1), none⟩)) (Flow.met_none rfl) (fun a W hH => ?_) ?_
          · have e0 := Flow.see_new 57 4 hH.sees (by kernel_rfl) (by kernel_rfl) rfl rfl
            have e1 := Flow.see_new 60 7 hH.sees (by kernel_rfl) (by kernel_rfl) rfl rfl
            exact s_ixS (s := 1) ((first + c1)) _ rfl Tryz.underlying74 (by kernel_rfl) (by first | exact e0 | simpa [Act.eval] using e0 | (simp [Act.eval])) (by first | exact e1 | simpa [Act.eval] using e1 | (simp [Act.eval])) (by omega) (by omega) (by omega)
          refine Flow.pass_gen (fun _ W => NR W g ((d1.setIfInBounds ((first + root)) (d1[(first + c1)]!)).setIfInBounds ((first + c1)) (d1[(first + root)]!)) R) (Flow.kept_of (fun _ _ _ c h => h.chg c id) (Flow.kz_cons (Flow.no_follow (by kernel_rfl)) (Flow.kz_cons (Flow.no_follow (by kernel_rfl)) Flow.kz_nil))) (Flow.met_none rfl) (fun a W hH => ?_) ?_
          · have e0 := Flow.see_new 74 22 hH.sees (by kernel_rfl) (by kernel_rfl) rfl rfl
            have e1 := Flow.see_new 72 19 hH.sees (by kernel_rfl) (by kernel_rfl) rfl rfl
            obtain ⟨_, hP⟩ := Flow.past_lin 21 hH.past (by kernel_rfl) (by kernel_rfl) rfl (by kernel_rfl)
            refine s_skip (s_store rfl (by kernel_rfl) hP e0 e1 (nr_size (by rw [Array.size_setIfInBounds]; omega))) ?_
            exact ⟨_, rfl, Chg.grown (s_grown _ _ _ _) (by rintro j h; cases h; rfl), nr_set hP _ (by rw [Array.size_setIfInBounds]; omega) _⟩
          refine Flow.pass_end [none, none, none, none, none, none, none, none, none, none, none, none, none, none, none, none, none, none, none, none, none, none, none, none, none, none, none, none, none, none, none, none, none, none, none, none, none, none, none, none, none, none, none, none, none, none, none, none, none, none, none, none, none, some 53, some 54, some 55, some 56, some 57, some 58, some 59, some 60, some 61, some 62, some 63, some 64, some 65, some 66, some 67, some 68, some 69, some 70, some 71, some 72, some 73, some 74, none] (by kernel_rfl) ?_
          intro f gg w9 hB hfa hT hfg
          have F3 : (fun W => Chg (OnlyG g) W5 W) w9 := hfa _ (List.mem_of_getElem? (i := 3) rfl) (Nat.le_refl _)
          have hN_W6 : NR w9 g (Sort.swp d1 (first + root) (first + c1)) R := hT 23 _ (by kernel_rfl) rfl
          have hC_W6 := hC_W5.trans F3
          simp only [Reg.sel]
          obtain ⟨W6, hWW6⟩ : ∃ W, W = w9 := ⟨_, rfl⟩
          subst hWW6
          clear hT hfg hfa hB F3
          go_wp2
          go_roundw
          case rel => first | exact ⟨c1, _, rfl, by omega, Lib.hid (by rw [← hI.out, hgo.out]; rfl), by rw [swp_size]; exact hn1, hN_W6, hC_W6⟩ | ((repeat apply Exists.intro); refine ⟨?_, rfl⟩; exact ⟨c1, _, rfl, by omega, Lib.hid (by rw [← hI.out, hgo.out]; rfl), by rw [swp_size]; exact hn1, hN_W6, hC_W6⟩)
          case measure => first | (simp [intOf]; done) | (simp [intOf]; omega) | (simp only [intOf]; omega)
    · have hgi : (hi : Int) ≤ (c1 : Int) := by omega
      go_wp2
      refine bodyPost_ret (results_none rfl _ _ _) rfl ?_
      exact ⟨rfl, d1, by rw [← hI.out, sift_stop (by omega)], hN_wr, hC_wr⟩
theorem siftDown_size (hi first root : Nat) (d : Array Nat) : (Sort.siftDown ltN hi first root d).size = d.size := by
  fun_induction Sort.siftDown ltN hi first root d <;> simp_all [Sort.swp]

set_option maxRecDepth 100000 in
set_option maxHeartbeats 2000000 in
theorem heapSort_walk (g : Nat) (R : List Value) (d : Array Nat) (n cap lo hi : Nat) (hn : d.size = n) (hlo : lo < hi) (hhi : hi ≤ n) (hn5 : n ≤ 1000000) (w : World) (hN : NR w g d R) :
    Calls Tryz.prog 157 #[.slice (some ⟨g, 0, none⟩) n cap, .int .i64 (lo : Int), .int .i64 (hi : Int)] w (SRet w g R fun d' => d' = Sort.heapSort ltN d lo hi) := by
  obtain ⟨H, hH⟩ : ∃ H, hi - lo = H := ⟨_, rfl⟩
  obtain ⟨K, hK⟩ : ∃ K, (H - 1) / 2 + 1 = K := ⟨_, rfl⟩
  obtain ⟨BD, hBD⟩ : ∃ X, Sort.heapBuild ltN H lo K d = X := ⟨_, rfl⟩
  obtain ⟨RES, hRES⟩ : ∃ X, Sort.heapSort ltN d lo hi = X := ⟨_, rfl⟩
  rw [hRES]
  have h0 := Lib.hid hBD
  have h1 : Hid (Sort.heapPop ltN lo H BD = RES) := Lib.hid (by rw [← hRES, ← hBD, ← hK, ← hH]; rfl)
  have hHi : IntKind.i64.wrap ((hi : Int) - (lo : Int)) = (H : Int) := by rw [IntWalk.i64_in _ (by omega)]; omega
  have hH1 : IntKind.i64.wrap ((H : Int) - 1) = (H : Int) - 1 := IntWalk.i64_in _ (by omega)
  have hH2 : ((H : Int) - 1).tdiv 2 = (K : Int) - 1 := by rw [Int.tdiv_eq_ediv_of_nonneg (by omega)]; omega
  have hH3 : ((H : Int) - 1) / 2 = (K : Int) - 1 := by omega
  have hKn : K ≤ n := by omega
  have hHn : lo + H ≤ n := by omega
  clear hBD hRES
  have HK := Lib.hid hK
  have HH := Lib.hid hH
  clear hK hH
  go_enter Tryz.func157, Tryz.ntmps157
  go_wp2
  go_loopw [9] (fun i wr => ∃ (k : Nat) (d1 : Array Nat), i = .int .i64 ((k : Int) - 1) ∧ k ≤ K ∧ Hid (Sort.heapBuild ltN H lo k d1 = BD) ∧ d1.size = n ∧ NR wr g d1 R ∧ Chg (OnlyG g) w wr) (fun i _ => ((intOf i) + 1).toNat)
  case atStart => exact ⟨K, d, by first | rfl | (congr 1; done) | go_num, Nat.le_refl _, h0, hn, hN, Chg.refl _ _⟩
  case round =>
    obtain ⟨k, d1, rfl, hk, hI, hn1, hN_wr, hC_wr⟩ := hrel
    by_cases hk0 : 0 < k
    · obtain ⟨j, rfl⟩ : ∃ j, k = j + 1 := ⟨k - 1, by omega⟩
      have hj : (((j + 1 : Nat) : Int) - 1) = (j : Int) := by omega
      rw [hj]
      have hcall := siftDown_walk g R d1 n cap j H lo hn1 (by omega) (by omega) hn5 wr hN_wr
      have hjw : IntKind.i64.wrap ((j : Int) - 1) = (j : Int) - 1 := IntWalk.i64_in _ (by omega)
      go_wp2_with fail
      refine Calls.mono hcall ?_
      rintro e W5 ⟨rfl, d2, hd2, hN5, hC5⟩
      clear hcall
      go_wp2
      go_roundw
      case rel => first | exact ⟨j, d2, rfl, by omega, Lib.hid (by rw [hd2]; exact hI.out), by rw [hd2, siftDown_size]; exact hn1, hN5, hC_wr.trans hC5⟩ | ((repeat apply Exists.intro); refine ⟨?_, rfl⟩; exact ⟨j, d2, rfl, by omega, Lib.hid (by rw [hd2]; exact hI.out), by rw [hd2, siftDown_size]; exact hn1, hN5, hC_wr.trans hC5⟩)
      case measure => first | (simp [intOf]; done) | (simp [intOf]; omega) | (simp only [intOf]; omega)
    · obtain rfl : k = 0 := by omega
      have hBDe : d1 = BD := hI.out
      subst hBDe
      have hC0 := hC_wr
      go_wp2
      go_loopw [10] (fun i wr => ∃ (k : Nat) (d2 : Array Nat), i = .int .i64 ((k : Int) - 1) ∧ k ≤ H ∧ Hid (Sort.heapPop ltN lo k d2 = RES) ∧ d2.size = n ∧ NR wr g d2 R ∧ Chg (OnlyG g) w wr) (fun i _ => ((intOf i) + 1).toNat)
      case atStart => exact ⟨H, d1, by first | rfl | (congr 1; done) | go_num, Nat.le_refl _, h1, hn1, hN_wr, hC_wr⟩
      case round =>
        obtain ⟨k, d2, rfl, hk, hI2, hn2, hN_wr, hC_wr⟩ := hrel
        by_cases hk0 : 0 < k
        · obtain ⟨j, rfl⟩ : ∃ j, k = j + 1 := ⟨k - 1, by omega⟩
          have hj : (((j + 1 : Nat) : Int) - 1) = (j : Int) := by omega
          rw [hj]
          have hjw : IntKind.i64.wrap ((j : Int) - 1) = (j : Int) - 1 := IntWalk.i64_in _ (by omega)
          go_upto_region 10 with (fail)
          refine Flow.wp_region_flow (g) [(17, fun b => b = g), (19, fun b => b = g)] [(11, fun W => NR W g d2 R), (15, fun W => NR W g d2 R), (17, fun W => NR W g d2 R), (20, fun W => Chg (OnlyG g) wr W)] (by kernel_rfl) (by kernel_rfl) (Nat.le_of_lt hN_wr.lt) (Flow.nz_cons (by rintro b rfl; exact Nat.le_refl _) (Flow.nz_cons (by rintro b rfl; exact Nat.le_refl _) Flow.nz_nil)) (Flow.facts_cons (hN_wr.drew) (Flow.kept_blk id) (Flow.fz_cons (Flow.no_follow (by kernel_rfl)) (Flow.fz_cons (Flow.no_follow (by kernel_rfl)) Flow.fz_nil)) (Flow.facts_cons (hN_wr.drew) (Flow.kept_blk id) (Flow.fz_cons (Flow.no_follow (by kernel_rfl)) (Flow.fz_cons (Flow.no_follow (by kernel_rfl)) Flow.fz_nil)) (Flow.facts_cons (hN_wr.drew) (Flow.kept_blk id) (Flow.fz_cons (Flow.no_follow (by kernel_rfl)) (Flow.fz_cons (Flow.no_follow (by kernel_rfl)) Flow.fz_nil)) (Flow.facts_cons ((Chg.refl _ _).drew) (fun _ _ c h => onlyg_trans h c (by first | exact fun _ hj => hj | exact fun _ hj => hj.elim)) (Flow.fz_cons (fun _ => fun _ _ c h => onlyg_trans h c (by first | exact fun _ hj => hj | exact fun _ hj => hj.elim)) (Flow.fz_cons (fun _ => fun _ _ c h => onlyg_trans h c (by first | exact fun _ hj => hj | exact fun _ hj => hj.elim)) Flow.fz_nil)) Flow.facts_nil)))) ?_
          refine Flow.pass_old (X := .slice (some ⟨g, 0, none⟩) n cap) 0 (Flow.met_none rfl) (.inl rfl) (by kernel_rfl) (by kernel_rfl) rfl ?_
          refine Flow.pass_old (X := .int .i64 ((lo : Int))) 6 (Flow.met_none rfl) (.inl rfl) (by kernel_rfl) (by kernel_rfl) rfl ?_
          refine Flow.pass_old (X := .slice (some ⟨g, 0, none⟩) n cap) 0 (Flow.met_none rfl) (.inl rfl) (by kernel_rfl) (by kernel_rfl) rfl ?_
          refine Flow.pass_old (X := .int .i64 ((lo : Int))) 6 (Flow.met_none rfl) (.inl rfl) (by kernel_rfl) (by kernel_rfl) rfl ?_
          refine Flow.pass_old (X := .int .i64 ((j : Int))) 10 (Flow.met_none rfl) (.inl rfl) (by kernel_rfl) (by kernel_rfl) rfl ?_
          refine Flow.pass_val (.int .i64 ((lo : Int) + (j : Int))) (Flow.met_none rfl) (fun a W hH => ?_) ?_
          · have e0 := Flow.see_new 36 3 hH.sees (by kernel_rfl) (by kernel_rfl) rfl rfl
            have e1 := Flow.see_new 37 4 hH.sees (by kernel_rfl) (by kernel_rfl) rfl rfl
            go_simp; first | done | rfl | (rw [IntWalk.i64_in _ (by omega)]; first | done | rfl | omega | (simp; done))
          refine Flow.pass_old (X := .slice (some ⟨g, 0, none⟩) n cap) 0 (Flow.met_none rfl) (.inl rfl) (by kernel_rfl) (by kernel_rfl) rfl ?_
          refine Flow.pass_old (X := .int .i64 ((lo : Int))) 6 (Flow.met_none rfl) (.inl rfl) (by kernel_rfl) (by kernel_rfl) rfl ?_
          refine Flow.pass_old (X := .int .i64 ((j : Int))) 10 (Flow.met_none rfl) (.inl rfl) (by kernel_rfl) (by kernel_rfl) rfl ?_
          refine Flow.pass_val (.int .i64 ((lo : Int) + (j : Int))) (Flow.met_none rfl) (fun a W hH => ?_) ?_
          · have e0 := Flow.see_new 40 7 hH.sees (by kernel_rfl) (by kernel_rfl) rfl rfl
            have e1 := Flow.see_new 41 8 hH.sees (by kernel_rfl) (by kernel_rfl) rfl rfl
            go_simp; first | done | rfl | (rw [IntWalk.i64_in _ (by omega)]; first | done | rfl | omega | (simp; done))
          refine Flow.pass_val (.pointer (some ⟨g, (lo + j), none⟩)) (Flow.met_none rfl) (fun a W hH => ?_) ?_
          · have e0 := Flow.see_new 39 6 hH.sees (by kernel_rfl) (by kernel_rfl) rfl rfl
            have e1 := Flow.see_new 42 9 hH.sees (by kernel_rfl) (by kernel_rfl) rfl rfl
            exact s_ixS (s := 1) ((lo + j)) _ rfl Tryz.underlying74 (by kernel_rfl) (by first | exact e0 | simpa [Act.eval] using e0 | (simp [Act.eval])) (by first | exact e1 | simpa [Act.eval] using e1 | (simp [Act.eval])) (by omega) (by omega) (by omega)
          refine Flow.pass_val (.int .u64 ((d2[(lo + j)]! : Nat) : Int)) (Flow.met_none rfl) (fun a W hH => ?_) ?_
          · have e0 := Flow.see_new 43 10 hH.sees (by kernel_rfl) (by kernel_rfl) rfl rfl
            have fa0 : (fun W => NR W g d2 R) W := hH.fact _ (List.mem_of_getElem? (i := 0) rfl) rfl
            have cc := nr_cell fa0 ((lo + j)) (by omega); go_simp; first | done | rfl
          refine Flow.pass_old (X := .slice (some ⟨g, 0, none⟩) n cap) 0 (Flow.met_none rfl) (.inl rfl) (by kernel_rfl) (by kernel_rfl) rfl ?_
          refine Flow.pass_old (X := .int .i64 ((lo : Int))) 6 (Flow.met_none rfl) (.inl rfl) (by kernel_rfl) (by kernel_rfl) rfl ?_
          refine Flow.pass_val (.pointer (some ⟨g, lo, none⟩)) (Flow.met_none rfl) (fun a W hH => ?_) ?_
          · have e0 := Flow.see_new 45 12 hH.sees (by kernel_rfl) (by kernel_rfl) rfl rfl
            have e1 := Flow.see_new 46 13 hH.sees (by kernel_rfl) (by kernel_rfl) rfl rfl
            exact s_ixS (s := 1) (lo) _ rfl Tryz.underlying74 (by kernel_rfl) (by first | exact e0 | simpa [Act.eval] using e0 | (simp [Act.eval])) (by first | exact e1 | simpa [Act.eval] using e1 | (simp [Act.eval])) (by omega) (by omega) (by omega)
          refine Flow.pass_val (.int .u64 ((d2[lo]! : Nat) : Int)) (Flow.met_none rfl) (fun a W hH => ?_) ?_
          · have e0 := Flow.see_new 47 14 hH.sees (by kernel_rfl) (by kernel_rfl) rfl rfl
            have fa1 : (fun W => NR W g d2 R) W := hH.fact _ (List.mem_of_getElem? (i := 1) rfl) rfl
            have cc := nr_cell fa1 (lo) (by omega); go_simp; first | done | rfl
          refine Flow.pass_val (.pointer (some ⟨g, lo, none⟩)) (Flow.met_none rfl) (fun a W hH => ?_) ?_
          · have e0 := Flow.see_new 33 0 hH.sees (by kernel_rfl) (by kernel_rfl) rfl rfl
            have e1 := Flow.see_new 34 1 hH.sees (by kernel_rfl) (by kernel_rfl) rfl rfl
            exact s_ixS (s := 1) (lo) _ rfl Tryz.underlying74 (by kernel_rfl) (by first | exact e0 | simpa [Act.eval] using e0 | (simp [Act.eval])) (by first | exact e1 | simpa [Act.eval] using e1 | (simp [Act.eval])) (by omega) (by omega) (by omega)
          refine Flow.pass_lin [19] (fun _ W => NR W g (d2.setIfInBounds (lo) (d2[(lo + j)]!)) R) (Flow.kept_lin [19] (fun _ _ _ c h => h.chg c id) (Flow.lz_cons (Flow.no_follow (by kernel_rfl)) (Flow.lz_cons (fun _ => .inl rfl) Flow.lz_nil))) (Flow.met_none rfl) (fun a W hH => ?_) ?_
          · have e0 := Flow.see_new 49 16 hH.sees (by kernel_rfl) (by kernel_rfl) rfl rfl
            have e1 := Flow.see_new 44 11 hH.sees (by kernel_rfl) (by kernel_rfl) rfl rfl
            have fa2 : (fun W => NR W g d2 R) W := hH.fact _ (List.mem_of_getElem? (i := 2) rfl) rfl
            refine s_skip (s_store rfl (by kernel_rfl) fa2 e0 e1 (nr_size (by omega))) ?_
            exact ⟨_, rfl, Chg.grown (s_grown _ _ _ _) (by rintro j h; cases h; rfl), nr_set fa2 _ (by omega) _⟩
          refine Flow.pass_val (.pointer (some ⟨g, (lo + j), none⟩)) (Flow.met_none rfl) (fun a W hH => ?_) ?_
          · have e0 := Flow.see_new 35 2 hH.sees (by kernel_rfl) (by kernel_rfl) rfl rfl
            have e1 := Flow.see_new 38 5 hH.sees (by kernel_rfl) (by kernel_rfl) rfl rfl
            exact s_ixS (s := 1) ((lo + j)) _ rfl Tryz.underlying74 (by kernel_rfl) (by first | exact e0 | simpa [Act.eval] using e0 | (simp [Act.eval])) (by first | exact e1 | simpa [Act.eval] using e1 | (simp [Act.eval])) (by omega) (by omega) (by omega)
          refine Flow.pass_gen (fun _ W => NR W g ((d2.setIfInBounds (lo) (d2[(lo + j)]!)).setIfInBounds ((lo + j)) (d2[lo]!)) R) (Flow.kept_of (fun _ _ _ c h => h.chg c id) (Flow.kz_cons (Flow.no_follow (by kernel_rfl)) (Flow.kz_cons (Flow.no_follow (by kernel_rfl)) Flow.kz_nil))) (Flow.met_none rfl) (fun a W hH => ?_) ?_
          · have e0 := Flow.see_new 50 18 hH.sees (by kernel_rfl) (by kernel_rfl) rfl rfl
            have e1 := Flow.see_new 48 15 hH.sees (by kernel_rfl) (by kernel_rfl) rfl rfl
            obtain ⟨_, hP⟩ := Flow.past_lin 17 hH.past (by kernel_rfl) (by kernel_rfl) rfl (by kernel_rfl)
            refine s_skip (s_store rfl (by kernel_rfl) hP e0 e1 (nr_size (by rw [Array.size_setIfInBounds]; omega))) ?_
            exact ⟨_, rfl, Chg.grown (s_grown _ _ _ _) (by rintro j h; cases h; rfl), nr_set hP _ (by rw [Array.size_setIfInBounds]; omega) _⟩
          refine Flow.pass_end [none, none, none, none, none, none, none, none, none, none, none, none, none, none, none, none, none, none, none, none, none, none, none, none, none, none, none, none, none, none, none, none, none, some 33, some 34, some 35, some 36, some 37, some 38, some 39, some 40, some 41, some 42, some 43, some 44, some 45, some 46, some 47, some 48, some 49, some 50, none, none, none, none, none] (by kernel_rfl) ?_
          intro f gg w9 hB hfa hT hfg
          have F3 : (fun W => Chg (OnlyG g) wr W) w9 := hfa _ (List.mem_of_getElem? (i := 3) rfl) (Nat.le_refl _)
          have hN_W6 : NR w9 g (Sort.swp d2 (lo) (lo + j)) R := hT 19 _ (by kernel_rfl) rfl
          have hC_W6 := hC_wr.trans F3
          simp only [Reg.sel]
          obtain ⟨W6, hWW6⟩ : ∃ W, W = w9 := ⟨_, rfl⟩
          subst hWW6
          clear hT hfg hfa hB F3
          have hcall := siftDown_walk g R (Sort.swp d2 lo (lo + j)) n cap 0 j lo (by rw [swp_size]; exact hn2) (by omega) (by omega) hn5 W6 hN_W6
          have hs3 : (Sort.swp d2 lo (lo + j)).size = n := by rw [swp_size]; exact hn2
          have hI3 : Hid (Sort.heapPop ltN lo j (Sort.siftDown ltN j lo 0 (Sort.swp d2 lo (lo + j))) = RES) := Lib.hid hI2.out
          go_wp2_with fail
          refine Calls.mono hcall ?_
          rintro e W7 ⟨rfl, d3, hd3, hN7, hC7⟩
          clear hcall
          go_wp2
          go_roundw
          case rel => first | exact ⟨j, d3, rfl, by omega, Lib.hid (by rw [hd3]; exact hI3.out), by rw [hd3, siftDown_size]; exact hs3, hN7, hC_W6.trans hC7⟩ | ((repeat apply Exists.intro); refine ⟨?_, rfl⟩; exact ⟨j, d3, rfl, by omega, Lib.hid (by rw [hd3]; exact hI3.out), by rw [hd3, siftDown_size]; exact hs3, hN7, hC_W6.trans hC7⟩)
          case measure => first | (simp [intOf]; done) | (simp [intOf]; omega) | (simp only [intOf]; omega)
        · obtain rfl : k = 0 := by omega
          have hRe : d2 = RES := hI2.out
          subst hRe
          go_wp2
          refine bodyPost_ret (results_none rfl _ _ _) rfl ?_
          exact ⟨rfl, d2, rfl, hN_wr, hC_wr⟩
end Go.Proofs.YtipdmhppadapkaaGreatDoor
/-
  Walks: reverseRangeOrdered at uint64, xorshift, bits.Len.
-/
namespace Go.Proofs.YtipdmhppadapkaaGreatDoor
open Go.RowKit

set_option maxRecDepth 100000 in
set_option maxHeartbeats 2000000 in
theorem reverseRange_walk (g : Nat) (R : List Value) (d : Array Nat) (n cap lo hi : Nat) (hn : d.size = n) (hlo : lo < hi) (hhi : hi ≤ n) (hn5 : n ≤ 1000000) (w : World) (hN : NR w g d R) :
    Calls Tryz.prog 160 #[.slice (some ⟨g, 0, none⟩) n cap, .int .i64 (lo : Int), .int .i64 (hi : Int)] w (SRet w g R fun d' => Sort.PermIn lo hi d d') := by
  have hw1 : IntKind.i64.wrap ((hi : Int) - 1) = ((hi - 1 : Nat) : Int) := by rw [IntWalk.i64_in _ (by omega)]; omega
  go_enter Tryz.func160, Tryz.ntmps160
  go_wp2
  go_loopw [6, 7] (fun i j wr => ∃ (x y : Nat) (d1 : Array Nat), lo ≤ x ∧ y < hi ∧ i = .int .i64 (x : Int) ∧ j = .int .i64 (y : Int) ∧ Hid (Sort.PermIn lo hi d d1) ∧ d1.size = n ∧ NR wr g d1 R ∧ Chg (OnlyG g) w wr) (fun i j _ => (intOf j - intOf i).toNat)
  case atStart => exact ⟨lo, hi - 1, d, Nat.le_refl _, by omega, rfl, rfl, Lib.hid (Sort.permIn_refl d lo hi), hn, hN, Chg.refl _ _⟩
  case round =>
    obtain ⟨x, y, d1, hx, hy, rfl, rfl, hP, hn1, hN_wr, hC_wr⟩ := hrel
    by_cases hlt : x < y
    · have hlti : (x : Int) < (y : Int) := by omega
      have hxw : IntKind.i64.wrap ((x : Int) + 1) = ((x + 1 : Nat) : Int) := by rw [IntWalk.i64_in _ (by omega)]; omega
      have hyw : IntKind.i64.wrap ((y : Int) - 1) = ((y - 1 : Nat) : Int) := by rw [IntWalk.i64_in _ (by omega)]; omega
      go_upto_region 3 with (fail)
      refine Flow.wp_region_flow (g) [(13, fun b => b = g), (15, fun b => b = g)] [(7, fun W => NR W g d1 R), (11, fun W => NR W g d1 R), (13, fun W => NR W g d1 R), (16, fun W => Chg (OnlyG g) wr W)] (by kernel_rfl) (by kernel_rfl) (Nat.le_of_lt hN_wr.lt) (Flow.nz_cons (by rintro b rfl; exact Nat.le_refl _) (Flow.nz_cons (by rintro b rfl; exact Nat.le_refl _) Flow.nz_nil)) (Flow.facts_cons (hN_wr.drew) (Flow.kept_blk id) (Flow.fz_cons (Flow.no_follow (by kernel_rfl)) (Flow.fz_cons (Flow.no_follow (by kernel_rfl)) Flow.fz_nil)) (Flow.facts_cons (hN_wr.drew) (Flow.kept_blk id) (Flow.fz_cons (Flow.no_follow (by kernel_rfl)) (Flow.fz_cons (Flow.no_follow (by kernel_rfl)) Flow.fz_nil)) (Flow.facts_cons (hN_wr.drew) (Flow.kept_blk id) (Flow.fz_cons (Flow.no_follow (by kernel_rfl)) (Flow.fz_cons (Flow.no_follow (by kernel_rfl)) Flow.fz_nil)) (Flow.facts_cons ((Chg.refl _ _).drew) (fun _ _ c h => onlyg_trans h c (by first | exact fun _ hj => hj | exact fun _ hj => hj.elim)) (Flow.fz_cons (fun _ => fun _ _ c h => onlyg_trans h c (by first | exact fun _ hj => hj | exact fun _ hj => hj.elim)) (Flow.fz_cons (fun _ => fun _ _ c h => onlyg_trans h c (by first | exact fun _ hj => hj | exact fun _ hj => hj.elim)) Flow.fz_nil)) Flow.facts_nil)))) ?_
      refine Flow.pass_old (X := .slice (some ⟨g, 0, none⟩) n cap) 0 (Flow.met_none rfl) (.inl rfl) (by kernel_rfl) (by kernel_rfl) rfl ?_
      refine Flow.pass_old (X := .int .i64 ((x : Int))) 6 (Flow.met_none rfl) (.inl rfl) (by kernel_rfl) (by kernel_rfl) rfl ?_
      refine Flow.pass_old (X := .slice (some ⟨g, 0, none⟩) n cap) 0 (Flow.met_none rfl) (.inl rfl) (by kernel_rfl) (by kernel_rfl) rfl ?_
      refine Flow.pass_old (X := .int .i64 ((y : Int))) 7 (Flow.met_none rfl) (.inl rfl) (by kernel_rfl) (by kernel_rfl) rfl ?_
      refine Flow.pass_old (X := .slice (some ⟨g, 0, none⟩) n cap) 0 (Flow.met_none rfl) (.inl rfl) (by kernel_rfl) (by kernel_rfl) rfl ?_
      refine Flow.pass_old (X := .int .i64 ((y : Int))) 7 (Flow.met_none rfl) (.inl rfl) (by kernel_rfl) (by kernel_rfl) rfl ?_
      refine Flow.pass_val (.pointer (some ⟨g, y, none⟩)) (Flow.met_none rfl) (fun a W hH => ?_) ?_
      · have e0 := Flow.see_new 18 4 hH.sees (by kernel_rfl) (by kernel_rfl) rfl rfl
        have e1 := Flow.see_new 19 5 hH.sees (by kernel_rfl) (by kernel_rfl) rfl rfl
        exact s_ixS (s := 1) (y) _ rfl Tryz.underlying74 (by kernel_rfl) (by first | exact e0 | simpa [Act.eval] using e0 | (simp [Act.eval])) (by first | exact e1 | simpa [Act.eval] using e1 | (simp [Act.eval])) (by omega) (by omega) (by omega)
      refine Flow.pass_val (.int .u64 ((d1[y]! : Nat) : Int)) (Flow.met_none rfl) (fun a W hH => ?_) ?_
      · have e0 := Flow.see_new 20 6 hH.sees (by kernel_rfl) (by kernel_rfl) rfl rfl
        have fa0 : (fun W => NR W g d1 R) W := hH.fact _ (List.mem_of_getElem? (i := 0) rfl) rfl
        have cc := nr_cell fa0 (y) (by omega); go_simp; first | done | rfl
      refine Flow.pass_old (X := .slice (some ⟨g, 0, none⟩) n cap) 0 (Flow.met_none rfl) (.inl rfl) (by kernel_rfl) (by kernel_rfl) rfl ?_
      refine Flow.pass_old (X := .int .i64 ((x : Int))) 6 (Flow.met_none rfl) (.inl rfl) (by kernel_rfl) (by kernel_rfl) rfl ?_
      refine Flow.pass_val (.pointer (some ⟨g, x, none⟩)) (Flow.met_none rfl) (fun a W hH => ?_) ?_
      · have e0 := Flow.see_new 22 8 hH.sees (by kernel_rfl) (by kernel_rfl) rfl rfl
        have e1 := Flow.see_new 23 9 hH.sees (by kernel_rfl) (by kernel_rfl) rfl rfl
        exact s_ixS (s := 1) (x) _ rfl Tryz.underlying74 (by kernel_rfl) (by first | exact e0 | simpa [Act.eval] using e0 | (simp [Act.eval])) (by first | exact e1 | simpa [Act.eval] using e1 | (simp [Act.eval])) (by omega) (by omega) (by omega)
      refine Flow.pass_val (.int .u64 ((d1[x]! : Nat) : Int)) (Flow.met_none rfl) (fun a W hH => ?_) ?_
      · have e0 := Flow.see_new 24 10 hH.sees (by kernel_rfl) (by kernel_rfl) rfl rfl
        have fa1 : (fun W => NR W g d1 R) W := hH.fact _ (List.mem_of_getElem? (i := 1) rfl) rfl
        have cc := nr_cell fa1 (x) (by omega); go_simp; first | done | rfl
      refine Flow.pass_val (.pointer (some ⟨g, x, none⟩)) (Flow.met_none rfl) (fun a W hH => ?_) ?_
      · have e0 := Flow.see_new 14 0 hH.sees (by kernel_rfl) (by kernel_rfl) rfl rfl
        have e1 := Flow.see_new 15 1 hH.sees (by kernel_rfl) (by kernel_rfl) rfl rfl
        exact s_ixS (s := 1) (x) _ rfl Tryz.underlying74 (by kernel_rfl) (by first | exact e0 | simpa [Act.eval] using e0 | (simp [Act.eval])) (by first | exact e1 | simpa [Act.eval] using e1 | (simp [Act.eval])) (by omega) (by omega) (by omega)
      refine Flow.pass_lin [15] (fun _ W => NR W g (d1.setIfInBounds (x) (d1[y]!)) R) (Flow.kept_lin [15] (fun _ _ _ c h => h.chg c id) (Flow.lz_cons (Flow.no_follow (by kernel_rfl)) (Flow.lz_cons (fun _ => .inl rfl) Flow.lz_nil))) (Flow.met_none rfl) (fun a W hH => ?_) ?_
      · have e0 := Flow.see_new 26 12 hH.sees (by kernel_rfl) (by kernel_rfl) rfl rfl
        have e1 := Flow.see_new 21 7 hH.sees (by kernel_rfl) (by kernel_rfl) rfl rfl
        have fa2 : (fun W => NR W g d1 R) W := hH.fact _ (List.mem_of_getElem? (i := 2) rfl) rfl
        refine s_skip (s_store rfl (by kernel_rfl) fa2 e0 e1 (nr_size (by omega))) ?_
        exact ⟨_, rfl, Chg.grown (s_grown _ _ _ _) (by rintro j h; cases h; rfl), nr_set fa2 _ (by omega) _⟩
      refine Flow.pass_val (.pointer (some ⟨g, y, none⟩)) (Flow.met_none rfl) (fun a W hH => ?_) ?_
      · have e0 := Flow.see_new 16 2 hH.sees (by kernel_rfl) (by kernel_rfl) rfl rfl
        have e1 := Flow.see_new 17 3 hH.sees (by kernel_rfl) (by kernel_rfl) rfl rfl
        exact s_ixS (s := 1) (y) _ rfl Tryz.underlying74 (by kernel_rfl) (by first | exact e0 | simpa [Act.eval] using e0 | (simp [Act.eval])) (by first | exact e1 | simpa [Act.eval] using e1 | (simp [Act.eval])) (by omega) (by omega) (by omega)
      refine Flow.pass_gen (fun _ W => NR W g ((d1.setIfInBounds (x) (d1[y]!)).setIfInBounds (y) (d1[x]!)) R) (Flow.kept_of (fun _ _ _ c h => h.chg c id) (Flow.kz_cons (Flow.no_follow (by kernel_rfl)) (Flow.kz_cons (Flow.no_follow (by kernel_rfl)) Flow.kz_nil))) (Flow.met_none rfl) (fun a W hH => ?_) ?_
      · have e0 := Flow.see_new 27 14 hH.sees (by kernel_rfl) (by kernel_rfl) rfl rfl
        have e1 := Flow.see_new 25 11 hH.sees (by kernel_rfl) (by kernel_rfl) rfl rfl
        obtain ⟨_, hP⟩ := Flow.past_lin 13 hH.past (by kernel_rfl) (by kernel_rfl) rfl (by kernel_rfl)
        refine s_skip (s_store rfl (by kernel_rfl) hP e0 e1 (nr_size (by rw [Array.size_setIfInBounds]; omega))) ?_
        exact ⟨_, rfl, Chg.grown (s_grown _ _ _ _) (by rintro j h; cases h; rfl), nr_set hP _ (by rw [Array.size_setIfInBounds]; omega) _⟩
      refine Flow.pass_end [none, none, none, none, none, none, none, none, none, none, none, none, none, none, some 14, some 15, some 16, some 17, some 18, some 19, some 20, some 21, some 22, some 23, some 24, some 25, some 26, some 27, none, none, none, none] (by kernel_rfl) ?_
      intro f gg w9 hB hfa hT hfg
      have F3 : (fun W => Chg (OnlyG g) wr W) w9 := hfa _ (List.mem_of_getElem? (i := 3) rfl) (Nat.le_refl _)
      have hN_W5 : NR w9 g (Sort.swp d1 (x) (y)) R := hT 15 _ (by kernel_rfl) rfl
      have hC_W5 := hC_wr.trans F3
      simp only [Reg.sel]
      obtain ⟨W5, hWW5⟩ : ∃ W, W = w9 := ⟨_, rfl⟩
      subst hWW5
      clear hT hfg hfa hB F3
      go_wp2
      go_roundw
      case rel => first | exact ⟨x + 1, y - 1, _, by omega, by omega, rfl, rfl, Lib.hid (Sort.permIn_trans _ _ _ lo hi hP.out (Sort.swp_permIn d1 lo hi x y hx (by omega) (by omega) hy (by omega))), by rw [swp_size]; exact hn1, hN_W5, hC_W5⟩ | ((repeat apply Exists.intro); refine ⟨?_, rfl⟩; exact ⟨x + 1, y - 1, _, by omega, by omega, rfl, rfl, Lib.hid (Sort.permIn_trans _ _ _ lo hi hP.out (Sort.swp_permIn d1 lo hi x y hx (by omega) (by omega) hy (by omega))), by rw [swp_size]; exact hn1, hN_W5, hC_W5⟩)
      case measure => first | (simp [intOf]; done) | (simp [intOf]; omega) | (simp only [intOf]; omega)
    · have hlti : ¬ (x : Int) < (y : Int) := by omega
      go_wp2
      refine bodyPost_ret (results_none rfl _ _ _) rfl ?_
      exact ⟨rfl, d1, hP.out, hN_wr, hC_wr⟩
theorem u64_xor_ex (x y : Nat) (hx : x < 18446744073709551616) (hy : y < 18446744073709551616) : ∃ z : Nat, z < 18446744073709551616 ∧ bits .xor .u64 (x : Int) (y : Int) = ((z : Nat) : Int) := by
  refine ⟨x ^^^ y, ?_, u64_xor_nat x y hx hy⟩
  exact Nat.xor_lt_two_pow (n := 64) hx hy
theorem u64_wrap_ex (x : Int) : ∃ z : Nat, z < 18446744073709551616 ∧ IntKind.u64.wrap x = ((z : Nat) : Int) := by
  rw [IntKind.wrap_u64]
  exact ⟨(x % 18446744073709551616).toNat, by omega, by omega⟩
set_option maxRecDepth 100000 in
set_option maxHeartbeats 2000000 in
theorem xorNext_walk (rb x0 : Nat) (hx0 : x0 < 18446744073709551616) (w : World) (hb : Blk w rb 250 #[.int .u64 ((x0 : Nat) : Int)]) :
    Calls Tryz.prog 177 #[.pointer (some ⟨rb, 0, none⟩)] w fun e w' => ∃ z : Nat, z < 18446744073709551616 ∧ e = .returned (.int .u64 (z : Int)) ∧ Blk w' rb 250 #[.int .u64 ((z : Nat) : Int)] ∧ Chg (OnlyG rb) w w' := by
  obtain ⟨s1, hs1l, hs1⟩ := u64_wrap_ex ((x0 : Int) * 8192)
  obtain ⟨y1, hy1l, hxy1⟩ := u64_xor_ex x0 s1 hx0 hs1l
  obtain ⟨s2, hs2l, hs2⟩ : ∃ s : Nat, s < 18446744073709551616 ∧ (y1 : Int) / 128 = ((s : Nat) : Int) := ⟨y1 / 128, by omega, by omega⟩
  obtain ⟨y2, hy2l, hxy2⟩ := u64_xor_ex y1 s2 hy1l hs2l
  obtain ⟨s3, hs3l, hs3⟩ := u64_wrap_ex ((y2 : Int) * 131072)
  obtain ⟨y3, hy3l, hxy3⟩ := u64_xor_ex y2 s3 hy2l hs3l
  go_enter Tryz.func177, Tryz.ntmps177
  go_upto_region 1 with (fail)
  refine Flow.wp_region_flow (rb) [(9, fun b => b = rb)] [(2, fun W => Blk W rb 250 #[.int .u64 ((x0 : Nat) : Int)]), (5, fun W => Blk W rb 250 #[.int .u64 ((x0 : Nat) : Int)]), (9, fun W => Blk W rb 250 #[.int .u64 ((x0 : Nat) : Int)]), (10, fun W => Chg (OnlyG rb) w W)] (by kernel_rfl) (by kernel_rfl) (Nat.le_of_lt hb.lt) (Flow.nz_cons (by rintro b rfl; exact Nat.le_refl _) Flow.nz_nil) (Flow.facts_cons (hb.drew) (Flow.kept_blk id) (Flow.fz_cons (Flow.no_follow (by kernel_rfl)) Flow.fz_nil) (Flow.facts_cons (hb.drew) (Flow.kept_blk id) (Flow.fz_cons (Flow.no_follow (by kernel_rfl)) Flow.fz_nil) (Flow.facts_cons (hb.drew) (Flow.kept_blk id) (Flow.fz_cons (Flow.no_follow (by kernel_rfl)) Flow.fz_nil) (Flow.facts_cons ((Chg.refl _ _).drew) (fun _ _ c h => onlyg_trans h c (by first | exact fun _ hj => hj | exact fun _ hj => hj.elim)) (Flow.fz_cons (fun _ => fun _ _ c h => onlyg_trans h c (by first | exact fun _ hj => hj | exact fun _ hj => hj.elim)) Flow.fz_nil) Flow.facts_nil)))) ?_
  refine Flow.pass_old (X := .pointer (some ⟨rb, 0, none⟩)) 0 (Flow.met_none rfl) (.inl rfl) (by kernel_rfl) (by kernel_rfl) rfl ?_
  refine Flow.pass_val (.pointer (some ⟨rb, 0, none⟩)) (Flow.met_none rfl) (fun a W hH => ?_) ?_
  · have e0 := Flow.see_new 3 0 hH.sees (by kernel_rfl) (by kernel_rfl) rfl rfl
    go_simp; first | done | rfl
  refine Flow.pass_val (.int .u64 ((x0 : Nat) : Int)) (Flow.met_none rfl) (fun a W hH => ?_) ?_
  · have e0 := Flow.see_new 4 1 hH.sees (by kernel_rfl) (by kernel_rfl) rfl rfl
    have fa0 : (fun W => Blk W rb 250 #[.int .u64 ((x0 : Nat) : Int)]) W := hH.fact _ (List.mem_of_getElem? (i := 0) rfl) rfl
    have cc : World.cell? W ⟨rb, 0, none⟩ = some (.int .u64 ((x0 : Nat) : Int)) := (Blk.cell fa0 0).trans rfl; go_simp; first | done | rfl
  refine Flow.pass_old (X := .pointer (some ⟨rb, 0, none⟩)) 0 (Flow.met_none rfl) (.inl rfl) (by kernel_rfl) (by kernel_rfl) rfl ?_
  refine Flow.pass_val (.pointer (some ⟨rb, 0, none⟩)) (Flow.met_none rfl) (fun a W hH => ?_) ?_
  · have e0 := Flow.see_new 6 3 hH.sees (by kernel_rfl) (by kernel_rfl) rfl rfl
    go_simp; first | done | rfl
  refine Flow.pass_val (.int .u64 ((x0 : Nat) : Int)) (Flow.met_none rfl) (fun a W hH => ?_) ?_
  · have e0 := Flow.see_new 7 4 hH.sees (by kernel_rfl) (by kernel_rfl) rfl rfl
    have fa1 : (fun W => Blk W rb 250 #[.int .u64 ((x0 : Nat) : Int)]) W := hH.fact _ (List.mem_of_getElem? (i := 1) rfl) rfl
    have cc : World.cell? W ⟨rb, 0, none⟩ = some (.int .u64 ((x0 : Nat) : Int)) := (Blk.cell fa1 0).trans rfl; go_simp; first | done | rfl
  refine Flow.pass_val (.int .u64 ((s1 : Nat) : Int)) (Flow.met_none rfl) (fun a W hH => ?_) ?_
  · have e0 := Flow.see_new 8 5 hH.sees (by kernel_rfl) (by kernel_rfl) rfl rfl
    have hq := hs1; go_simp; first | done | rfl
  refine Flow.pass_val (.int .u64 ((y1 : Nat) : Int)) (Flow.met_none rfl) (fun a W hH => ?_) ?_
  · have e0 := Flow.see_new 5 2 hH.sees (by kernel_rfl) (by kernel_rfl) rfl rfl
    have e1 := Flow.see_new 9 6 hH.sees (by kernel_rfl) (by kernel_rfl) rfl rfl
    have hq := hxy1; go_simp; first | done | rfl
  refine Flow.pass_val (.pointer (some ⟨rb, 0, none⟩)) (Flow.met_none rfl) (fun a W hH => ?_) ?_
  · have e0 := Flow.see_new 3 0 hH.sees (by kernel_rfl) (by kernel_rfl) rfl rfl
    go_simp; first | done | rfl
  refine Flow.pass_gen (fun _ W => Blk W rb 250 #[.int .u64 ((y1 : Nat) : Int)]) (Flow.kept_of (fun _ _ _ c h => h.chg c id) (Flow.kz_cons (Flow.no_follow (by kernel_rfl)) Flow.kz_nil)) (Flow.met_none rfl) (fun a W hH => ?_) ?_
  · have e0 := Flow.see_new 11 8 hH.sees (by kernel_rfl) (by kernel_rfl) rfl rfl
    have e1 := Flow.see_new 10 7 hH.sees (by kernel_rfl) (by kernel_rfl) rfl rfl
    have fa2 : (fun W => Blk W rb 250 #[.int .u64 ((x0 : Nat) : Int)]) W := hH.fact _ (List.mem_of_getElem? (i := 2) rfl) rfl
    refine s_skip (s_store rfl (by kernel_rfl) fa2 e0 e1 (by simp)) ?_
    exact ⟨_, rfl, Chg.grown (s_grown _ _ _ _) (by rintro j h; cases h; rfl), Blk.set_ fa2 0 _⟩
  refine Flow.pass_end [none, none, none, some 3, some 4, some 5, some 6, some 7, some 8, some 9, some 10, some 11, none, none, none, none, none, none, none, none, none, none, none, none, none, none, none, none, none, none, none, none, none] (by kernel_rfl) ?_
  intro f gg w9 hB hfa hT hfg
  have F3 : (fun W => Chg (OnlyG rb) w W) w9 := hfa _ (List.mem_of_getElem? (i := 3) rfl) (Nat.le_refl _)
  have hb1 : Blk w9 rb 250 #[.int .u64 ((y1 : Nat) : Int)] := hT 9 _ (by kernel_rfl) rfl
  have hC1 := F3
  simp only [Reg.sel]
  obtain ⟨W1, hW1⟩ : ∃ W, W = w9 := ⟨_, rfl⟩
  subst hW1
  clear hT hfg hfa hB F3 hb
  go_upto_region 2 with (fail)
  refine Flow.wp_region_flow (rb) [(9, fun b => b = rb)] [(2, fun W => Blk W rb 250 #[.int .u64 ((y1 : Nat) : Int)]), (5, fun W => Blk W rb 250 #[.int .u64 ((y1 : Nat) : Int)]), (9, fun W => Blk W rb 250 #[.int .u64 ((y1 : Nat) : Int)]), (10, fun W => Chg (OnlyG rb) W1 W)] (by kernel_rfl) (by kernel_rfl) (Nat.le_of_lt hb1.lt) (Flow.nz_cons (by rintro b rfl; exact Nat.le_refl _) Flow.nz_nil) (Flow.facts_cons (hb1.drew) (Flow.kept_blk id) (Flow.fz_cons (Flow.no_follow (by kernel_rfl)) Flow.fz_nil) (Flow.facts_cons (hb1.drew) (Flow.kept_blk id) (Flow.fz_cons (Flow.no_follow (by kernel_rfl)) Flow.fz_nil) (Flow.facts_cons (hb1.drew) (Flow.kept_blk id) (Flow.fz_cons (Flow.no_follow (by kernel_rfl)) Flow.fz_nil) (Flow.facts_cons ((Chg.refl _ _).drew) (fun _ _ c h => onlyg_trans h c (by first | exact fun _ hj => hj | exact fun _ hj => hj.elim)) (Flow.fz_cons (fun _ => fun _ _ c h => onlyg_trans h c (by first | exact fun _ hj => hj | exact fun _ hj => hj.elim)) Flow.fz_nil) Flow.facts_nil)))) ?_
  refine Flow.pass_old (X := .pointer (some ⟨rb, 0, none⟩)) 0 (Flow.met_none rfl) (.inl rfl) (by kernel_rfl) (by kernel_rfl) rfl ?_
  refine Flow.pass_val (.pointer (some ⟨rb, 0, none⟩)) (Flow.met_none rfl) (fun a W hH => ?_) ?_
  · have e0 := Flow.see_new 12 0 hH.sees (by kernel_rfl) (by kernel_rfl) rfl rfl
    go_simp; first | done | rfl
  refine Flow.pass_val (.int .u64 ((y1 : Nat) : Int)) (Flow.met_none rfl) (fun a W hH => ?_) ?_
  · have e0 := Flow.see_new 13 1 hH.sees (by kernel_rfl) (by kernel_rfl) rfl rfl
    have fa0 : (fun W => Blk W rb 250 #[.int .u64 ((y1 : Nat) : Int)]) W := hH.fact _ (List.mem_of_getElem? (i := 0) rfl) rfl
    have cc : World.cell? W ⟨rb, 0, none⟩ = some (.int .u64 ((y1 : Nat) : Int)) := (Blk.cell fa0 0).trans rfl; go_simp; first | done | rfl
  refine Flow.pass_old (X := .pointer (some ⟨rb, 0, none⟩)) 0 (Flow.met_none rfl) (.inl rfl) (by kernel_rfl) (by kernel_rfl) rfl ?_
  refine Flow.pass_val (.pointer (some ⟨rb, 0, none⟩)) (Flow.met_none rfl) (fun a W hH => ?_) ?_
  · have e0 := Flow.see_new 15 3 hH.sees (by kernel_rfl) (by kernel_rfl) rfl rfl
    go_simp; first | done | rfl
  refine Flow.pass_val (.int .u64 ((y1 : Nat) : Int)) (Flow.met_none rfl) (fun a W hH => ?_) ?_
  · have e0 := Flow.see_new 16 4 hH.sees (by kernel_rfl) (by kernel_rfl) rfl rfl
    have fa1 : (fun W => Blk W rb 250 #[.int .u64 ((y1 : Nat) : Int)]) W := hH.fact _ (List.mem_of_getElem? (i := 1) rfl) rfl
    have cc : World.cell? W ⟨rb, 0, none⟩ = some (.int .u64 ((y1 : Nat) : Int)) := (Blk.cell fa1 0).trans rfl; go_simp; first | done | rfl
  refine Flow.pass_val (.int .u64 ((s2 : Nat) : Int)) (Flow.met_none rfl) (fun a W hH => ?_) ?_
  · have e0 := Flow.see_new 17 5 hH.sees (by kernel_rfl) (by kernel_rfl) rfl rfl
    have hq := hs2; go_simp; first | done | rfl
  refine Flow.pass_val (.int .u64 ((y2 : Nat) : Int)) (Flow.met_none rfl) (fun a W hH => ?_) ?_
  · have e0 := Flow.see_new 14 2 hH.sees (by kernel_rfl) (by kernel_rfl) rfl rfl
    have e1 := Flow.see_new 18 6 hH.sees (by kernel_rfl) (by kernel_rfl) rfl rfl
    have hq := hxy2; go_simp; first | done | rfl
  refine Flow.pass_val (.pointer (some ⟨rb, 0, none⟩)) (Flow.met_none rfl) (fun a W hH => ?_) ?_
  · have e0 := Flow.see_new 12 0 hH.sees (by kernel_rfl) (by kernel_rfl) rfl rfl
    go_simp; first | done | rfl
  refine Flow.pass_gen (fun _ W => Blk W rb 250 #[.int .u64 ((y2 : Nat) : Int)]) (Flow.kept_of (fun _ _ _ c h => h.chg c id) (Flow.kz_cons (Flow.no_follow (by kernel_rfl)) Flow.kz_nil)) (Flow.met_none rfl) (fun a W hH => ?_) ?_
  · have e0 := Flow.see_new 20 8 hH.sees (by kernel_rfl) (by kernel_rfl) rfl rfl
    have e1 := Flow.see_new 19 7 hH.sees (by kernel_rfl) (by kernel_rfl) rfl rfl
    have fa2 : (fun W => Blk W rb 250 #[.int .u64 ((y1 : Nat) : Int)]) W := hH.fact _ (List.mem_of_getElem? (i := 2) rfl) rfl
    refine s_skip (s_store rfl (by kernel_rfl) fa2 e0 e1 (by simp)) ?_
    exact ⟨_, rfl, Chg.grown (s_grown _ _ _ _) (by rintro j h; cases h; rfl), Blk.set_ fa2 0 _⟩
  refine Flow.pass_end [none, none, none, none, none, none, none, none, none, none, none, none, some 12, some 13, some 14, some 15, some 16, some 17, some 18, some 19, some 20, none, none, none, none, none, none, none, none, none, none, none, none] (by kernel_rfl) ?_
  intro f gg w9 hB hfa hT hfg
  have F3 : (fun W => Chg (OnlyG rb) W1 W) w9 := hfa _ (List.mem_of_getElem? (i := 3) rfl) (Nat.le_refl _)
  have hb2 : Blk w9 rb 250 #[.int .u64 ((y2 : Nat) : Int)] := hT 9 _ (by kernel_rfl) rfl
  have hC2 := hC1.trans F3
  simp only [Reg.sel]
  obtain ⟨W2, hW2⟩ : ∃ W, W = w9 := ⟨_, rfl⟩
  subst hW2
  clear hT hfg hfa hB F3 hb1
  go_upto_region 3 with (fail)
  refine Flow.wp_region_flow (rb) [(9, fun b => b = rb)] [(2, fun W => Blk W rb 250 #[.int .u64 ((y2 : Nat) : Int)]), (5, fun W => Blk W rb 250 #[.int .u64 ((y2 : Nat) : Int)]), (9, fun W => Blk W rb 250 #[.int .u64 ((y2 : Nat) : Int)]), (10, fun W => Chg (OnlyG rb) W2 W)] (by kernel_rfl) (by kernel_rfl) (Nat.le_of_lt hb2.lt) (Flow.nz_cons (by rintro b rfl; exact Nat.le_refl _) Flow.nz_nil) (Flow.facts_cons (hb2.drew) (Flow.kept_blk id) (Flow.fz_cons (Flow.no_follow (by kernel_rfl)) Flow.fz_nil) (Flow.facts_cons (hb2.drew) (Flow.kept_blk id) (Flow.fz_cons (Flow.no_follow (by kernel_rfl)) Flow.fz_nil) (Flow.facts_cons (hb2.drew) (Flow.kept_blk id) (Flow.fz_cons (Flow.no_follow (by kernel_rfl)) Flow.fz_nil) (Flow.facts_cons ((Chg.refl _ _).drew) (fun _ _ c h => onlyg_trans h c (by first | exact fun _ hj => hj | exact fun _ hj => hj.elim)) (Flow.fz_cons (fun _ => fun _ _ c h => onlyg_trans h c (by first | exact fun _ hj => hj | exact fun _ hj => hj.elim)) Flow.fz_nil) Flow.facts_nil)))) ?_
  refine Flow.pass_old (X := .pointer (some ⟨rb, 0, none⟩)) 0 (Flow.met_none rfl) (.inl rfl) (by kernel_rfl) (by kernel_rfl) rfl ?_
  refine Flow.pass_val (.pointer (some ⟨rb, 0, none⟩)) (Flow.met_none rfl) (fun a W hH => ?_) ?_
  · have e0 := Flow.see_new 21 0 hH.sees (by kernel_rfl) (by kernel_rfl) rfl rfl
    go_simp; first | done | rfl
  refine Flow.pass_val (.int .u64 ((y2 : Nat) : Int)) (Flow.met_none rfl) (fun a W hH => ?_) ?_
  · have e0 := Flow.see_new 22 1 hH.sees (by kernel_rfl) (by kernel_rfl) rfl rfl
    have fa0 : (fun W => Blk W rb 250 #[.int .u64 ((y2 : Nat) : Int)]) W := hH.fact _ (List.mem_of_getElem? (i := 0) rfl) rfl
    have cc : World.cell? W ⟨rb, 0, none⟩ = some (.int .u64 ((y2 : Nat) : Int)) := (Blk.cell fa0 0).trans rfl; go_simp; first | done | rfl
  refine Flow.pass_old (X := .pointer (some ⟨rb, 0, none⟩)) 0 (Flow.met_none rfl) (.inl rfl) (by kernel_rfl) (by kernel_rfl) rfl ?_
  refine Flow.pass_val (.pointer (some ⟨rb, 0, none⟩)) (Flow.met_none rfl) (fun a W hH => ?_) ?_
  · have e0 := Flow.see_new 24 3 hH.sees (by kernel_rfl) (by kernel_rfl) rfl rfl
    go_simp; first | done | rfl
  refine Flow.pass_val (.int .u64 ((y2 : Nat) : Int)) (Flow.met_none rfl) (fun a W hH => ?_) ?_
  · have e0 := Flow.see_new 25 4 hH.sees (by kernel_rfl) (by kernel_rfl) rfl rfl
    have fa1 : (fun W => Blk W rb 250 #[.int .u64 ((y2 : Nat) : Int)]) W := hH.fact _ (List.mem_of_getElem? (i := 1) rfl) rfl
    have cc : World.cell? W ⟨rb, 0, none⟩ = some (.int .u64 ((y2 : Nat) : Int)) := (Blk.cell fa1 0).trans rfl; go_simp; first | done | rfl
  refine Flow.pass_val (.int .u64 ((s3 : Nat) : Int)) (Flow.met_none rfl) (fun a W hH => ?_) ?_
  · have e0 := Flow.see_new 26 5 hH.sees (by kernel_rfl) (by kernel_rfl) rfl rfl
    have hq := hs3; go_simp; first | done | rfl
  refine Flow.pass_val (.int .u64 ((y3 : Nat) : Int)) (Flow.met_none rfl) (fun a W hH => ?_) ?_
  · have e0 := Flow.see_new 23 2 hH.sees (by kernel_rfl) (by kernel_rfl) rfl rfl
    have e1 := Flow.see_new 27 6 hH.sees (by kernel_rfl) (by kernel_rfl) rfl rfl
    have hq := hxy3; go_simp; first | done | rfl
  refine Flow.pass_val (.pointer (some ⟨rb, 0, none⟩)) (Flow.met_none rfl) (fun a W hH => ?_) ?_
  · have e0 := Flow.see_new 21 0 hH.sees (by kernel_rfl) (by kernel_rfl) rfl rfl
    go_simp; first | done | rfl
  refine Flow.pass_gen (fun _ W => Blk W rb 250 #[.int .u64 ((y3 : Nat) : Int)]) (Flow.kept_of (fun _ _ _ c h => h.chg c id) (Flow.kz_cons (Flow.no_follow (by kernel_rfl)) Flow.kz_nil)) (Flow.met_none rfl) (fun a W hH => ?_) ?_
  · have e0 := Flow.see_new 29 8 hH.sees (by kernel_rfl) (by kernel_rfl) rfl rfl
    have e1 := Flow.see_new 28 7 hH.sees (by kernel_rfl) (by kernel_rfl) rfl rfl
    have fa2 : (fun W => Blk W rb 250 #[.int .u64 ((y2 : Nat) : Int)]) W := hH.fact _ (List.mem_of_getElem? (i := 2) rfl) rfl
    refine s_skip (s_store rfl (by kernel_rfl) fa2 e0 e1 (by simp)) ?_
    exact ⟨_, rfl, Chg.grown (s_grown _ _ _ _) (by rintro j h; cases h; rfl), Blk.set_ fa2 0 _⟩
  refine Flow.pass_end [none, none, none, none, none, none, none, none, none, none, none, none, none, none, none, none, none, none, none, none, none, some 21, some 22, some 23, some 24, some 25, some 26, some 27, some 28, some 29, none, none, none] (by kernel_rfl) ?_
  intro f gg w9 hB hfa hT hfg
  have F3 : (fun W => Chg (OnlyG rb) W2 W) w9 := hfa _ (List.mem_of_getElem? (i := 3) rfl) (Nat.le_refl _)
  have hb3 : Blk w9 rb 250 #[.int .u64 ((y3 : Nat) : Int)] := hT 9 _ (by kernel_rfl) rfl
  have hC3 := hC2.trans F3
  simp only [Reg.sel]
  obtain ⟨W3, hW3⟩ : ∃ W, W = w9 := ⟨_, rfl⟩
  subst hW3
  clear hT hfg hfa hB F3 hb2
  have cc : World.cell? W3 ⟨rb, 0, none⟩ = some (.int .u64 ((y3 : Nat) : Int)) := (Blk.cell hb3 0).trans rfl
  go_wp2
  go_ret
  exact ⟨y3, hy3l, rfl, hb3, hC3⟩
def len8 : Array UInt8 := #[0, 1, 2, 2, 3, 3, 3, 3, 4, 4, 4, 4, 4, 4, 4, 4, 5, 5, 5, 5, 5, 5, 5, 5, 5, 5, 5, 5, 5, 5, 5, 5, 6, 6, 6, 6, 6, 6, 6, 6, 6, 6, 6, 6, 6, 6, 6, 6, 6, 6, 6, 6, 6, 6, 6, 6, 6, 6, 6, 6, 6, 6, 6, 6, 7, 7, 7, 7, 7, 7, 7, 7, 7, 7, 7, 7, 7, 7, 7, 7, 7, 7, 7, 7, 7, 7, 7, 7, 7, 7, 7, 7, 7, 7, 7, 7, 7, 7, 7, 7, 7, 7, 7, 7, 7, 7, 7, 7, 7, 7, 7, 7, 7, 7, 7, 7, 7, 7, 7, 7, 7, 7, 7, 7, 7, 7, 7, 7, 8, 8, 8, 8, 8, 8, 8, 8, 8, 8, 8, 8, 8, 8, 8, 8, 8, 8, 8, 8, 8, 8, 8, 8, 8, 8, 8, 8, 8, 8, 8, 8, 8, 8, 8, 8, 8, 8, 8, 8, 8, 8, 8, 8, 8, 8, 8, 8, 8, 8, 8, 8, 8, 8, 8, 8, 8, 8, 8, 8, 8, 8, 8, 8, 8, 8, 8, 8, 8, 8, 8, 8, 8, 8, 8, 8, 8, 8, 8, 8, 8, 8, 8, 8, 8, 8, 8, 8, 8, 8, 8, 8, 8, 8, 8, 8, 8, 8, 8, 8, 8, 8, 8, 8, 8, 8, 8, 8, 8, 8, 8, 8, 8, 8, 8, 8, 8, 8, 8, 8, 8, 8, 8, 8, 8, 8, 8, 8]
def len8N (x : Nat) : Nat := (len8[x]?.getD 0).toNat
theorem len8_ok : ∀ x : Nat, x < 256 → (2 ^ len8N x ≤ 2 * x ∨ x = 0) ∧ len8N x ≤ 8 ∧ x < 2 ^ len8N x := by decide +kernel
theorem run_len8 (W : World) (x : Nat) (h : x < 256) : (Instr.index 9 (.string ⟨len8⟩) (.int .u8 (x : Int))).run Tryz.prog W = .ok (.int .u8 ((len8N x : Nat) : Int)) W := by
  have hs : len8.size = 256 := by decide +kernel
  rw [run_index_string (h := Tryz.underlying9), dif_pos ⟨by omega, by show (x : Int) < ((len8.size : Nat) : Int); rw [hs]; omega⟩]
  have hx : x < len8.size := by rw [hs]; exact h
  simp only [Int.toNat_natCast, len8N]
  rw [Array.getElem?_eq_getElem hx]
  rfl
/-- how many bits a number has: its power of two is above it, and at most twice it -/
def LenOk (x L : Nat) : Prop := 2 ^ L ≤ 2 * x ∧ L ≤ 20

set_option maxRecDepth 100000 in
set_option maxHeartbeats 2000000 in
theorem len64_walk (x : Nat) (hx : 0 < x) (hx5 : x ≤ 1000000) (w : World) : Calls Tryz.prog 166 #[.int .u64 (x : Int)] w fun e w' => (∃ L : Nat, LenOk x L ∧ e = .returned (.int .i64 (L : Int))) ∧ w' = w := by
  have h1 : ¬ (4294967296 : Int) ≤ (x : Int) := by omega
  have hi := run_len8
  by_cases h2 : 65536 ≤ x
  · have h2i : (65536 : Int) ≤ (x : Int) := by omega
    obtain ⟨y, hy⟩ : ∃ y, x / 65536 = y := ⟨_, rfl⟩
    have hyi : (x : Int) / 65536 = (y : Int) := by omega
    have hyn : ¬ (256 : Int) ≤ (y : Int) := by omega
    have hy2 : y < 256 := by omega
    have hyw : IntKind.u8.wrap (y : Int) = (y : Int) := IntWalk.u8_in _ (by omega)
    have hk := hi
    obtain ⟨q1, q2, q3⟩ := len8_ok y hy2
    have hr := fun W => hi W y hy2
    have HY := Lib.hid hy
    generalize len8N y = L at *
    have hLw : IntKind.i64.wrap (16 + (L : Int)) = ((16 + L : Nat) : Int) := by rw [IntWalk.i64_in _ (by omega)]; omega
    have hLw2 : IntKind.i64.wrap (L : Int) = (L : Int) := IntWalk.i64_in _ (by omega)
    have hfin : Hid (LenOk x (16 + L)) := Lib.hid ⟨by rw [Nat.pow_add]; omega, by
      rcases Nat.lt_or_ge 4 L with h | h
      · have h16 : 2 ^ 5 ≤ 2 ^ L := Nat.pow_le_pow_right (by omega) h
        omega
      · omega⟩
    unfold len8 at hr
    clear hi hk q1 q2 q3 hy
    go_enter Tryz.func166, Tryz.ntmps166
    go_wp2
    go_ret
    exact ⟨⟨16 + L, hfin.out, by first | rfl | (congr 2; omega)⟩, rfl⟩
  · by_cases h3 : 256 ≤ x
    · have h2i : ¬ (65536 : Int) ≤ (x : Int) := by omega
      have h3i : (256 : Int) ≤ (x : Int) := by omega
      obtain ⟨y, hy⟩ : ∃ y, x / 256 = y := ⟨_, rfl⟩
      have hyi : (x : Int) / 256 = (y : Int) := by omega
      have hy2 : y < 256 := by omega
      have hyw : IntKind.u8.wrap (y : Int) = (y : Int) := IntWalk.u8_in _ (by omega)
      obtain ⟨q1, q2, q3⟩ := len8_ok y hy2
      have hr := fun W => hi W y hy2
      have HY := Lib.hid hy
      generalize len8N y = L at *
      have hLw : IntKind.i64.wrap (8 + (L : Int)) = ((8 + L : Nat) : Int) := by rw [IntWalk.i64_in _ (by omega)]; omega
      have hLw2 : IntKind.i64.wrap (L : Int) = (L : Int) := IntWalk.i64_in _ (by omega)
      have hfin : Hid (LenOk x (8 + L)) := Lib.hid ⟨by rw [Nat.pow_add]; omega, by omega⟩
      unfold len8 at hr
      clear hi q1 q2 q3 hy
      go_enter Tryz.func166, Tryz.ntmps166
      go_wp2
      go_ret
      exact ⟨⟨8 + L, hfin.out, by first | rfl | (congr 2; omega)⟩, rfl⟩
    · have h2i : ¬ (65536 : Int) ≤ (x : Int) := by omega
      have h3i : ¬ (256 : Int) ≤ (x : Int) := by omega
      have hx2 : x < 256 := by omega
      have hyw : IntKind.u8.wrap (x : Int) = (x : Int) := IntWalk.u8_in _ (by omega)
      obtain ⟨q1, q2, q3⟩ := len8_ok x hx2
      have hr := fun W => hi W x hx2
      generalize len8N x = L at *
      have hLw2 : IntKind.i64.wrap (L : Int) = (L : Int) := IntWalk.i64_in _ (by omega)
      have hfin : Hid (LenOk x L) := Lib.hid ⟨by omega, by omega⟩
      unfold len8 at hr
      clear hi q1 q2 q3
      go_enter Tryz.func166, Tryz.ntmps166
      go_wp2
      go_ret
      exact ⟨⟨L, hfin.out, by first | rfl | (congr 2; omega)⟩, rfl⟩
end Go.Proofs.YtipdmhppadapkaaGreatDoor
/-
  Walks: choosePivotOrdered at uint64.
-/
namespace Go.Proofs.YtipdmhppadapkaaGreatDoor
open Go.RowKit

/-- the pivot's functions: they read the row, and count at block zb -/
structure PV (w : World) (g : Nat) (d : Array Nat) (R : List Value) (zb : Nat) : Prop where
  row : NR w g d R
  cnt : ∃ s, Blk w zb 3 #[.int .i64 s]
  ne : zb ≠ g
theorem PV.chg {w w' : World} {g : Nat} {d : Array Nat} {R : List Value} {zb : Nat} (h : PV w g d R zb) (k : Chg (OnlyG zb) w w') (hc : ∃ s, Blk w' zb 3 #[.int .i64 s]) : PV w' g d R zb := ⟨Blk.chg h.row k (fun e => h.ne (Eq.symm e)), hc, h.ne⟩
set_option maxRecDepth 100000 in
set_option maxHeartbeats 2000000 in
theorem order2_walk (g : Nat) (R : List Value) (d : Array Nat) (n cap x y zb : Nat) (hn : d.size = n) (hx : x < n) (hy : y < n) (_hn5 : n ≤ 1000000) (w : World) (hV : PV w g d R zb) :
    Calls Tryz.prog 183 #[.slice (some ⟨g, 0, none⟩) n cap, .int .i64 (x : Int), .int .i64 (y : Int), .pointer (some ⟨zb, 0, none⟩)] w fun e w' =>
      ∃ p q : Nat, ((p = x ∧ q = y) ∨ (p = y ∧ q = x)) ∧ e = .returned (.tuple #[.int .i64 (p : Int), .int .i64 (q : Int)]) ∧ PV w' g d R zb ∧ Chg (OnlyG zb) w w' := by
  have hN_w := hV.row
  obtain ⟨s, hs⟩ := hV.cnt
  have hne := hV.ne
  have hC_w := Chg.refl (OnlyG zb) w
  clear hV
  go_enter Tryz.func183, Tryz.ntmps183
  go_upto_region 1 with (fail)
  refine s_cut [none, none, none, none, none, none, none, none, none, none, some 10, some 11, some 12, some 13, some 14, some 15, some 16, some 17, some 18, none, none, none, none, none, none, none, none, none] (fun f W => f 18 = .bool (ltN d[y]! d[x]!) ∧ Below w.heap.size w W) (fun Q1 hQ1 => ?_) ?_
  · skip
    refine Flow.wp_region_flow (w.heap.size) [] [] (by kernel_rfl) (by kernel_rfl) (Nat.le_refl _) (fun _ h => by cases h) Flow.facts_nil ?_
    refine Flow.pass_old (X := .slice (some ⟨g, 0, none⟩) n cap) 0 (Flow.met_none rfl) (.inl rfl) (by kernel_rfl) (by kernel_rfl) rfl ?_
    refine Flow.pass_old (X := .int .i64 ((y : Int))) 2 (Flow.met_none rfl) (.inl rfl) (by kernel_rfl) (by kernel_rfl) rfl ?_
    refine Flow.pass_val (.pointer (some ⟨g, y, none⟩)) (Flow.met_none rfl) (fun a W hH => ?_) ?_
    · have e0 := Flow.see_new 10 0 hH.sees (by kernel_rfl) (by kernel_rfl) rfl rfl
      have e1 := Flow.see_new 11 1 hH.sees (by kernel_rfl) (by kernel_rfl) rfl rfl
      exact s_ixS (s := 1) (y) _ rfl Tryz.underlying74 (by kernel_rfl) (by first | exact e0 | simpa [Act.eval] using e0 | (simp [Act.eval])) (by first | exact e1 | simpa [Act.eval] using e1 | (simp [Act.eval])) (by omega) (by omega) (by omega)
    refine Flow.pass_val (.int .u64 ((d[y]! : Nat) : Int)) (Flow.met_none rfl) (fun a W hH => ?_) ?_
    · have e0 := Flow.see_new 12 2 hH.sees (by kernel_rfl) (by kernel_rfl) rfl rfl
      have cc := nr_cell (hN_w.below ((Below.refl w.heap.size w).drew.trans hH.below) hN_w.lt) (y) (by omega); go_simp; first | done | rfl
    refine Flow.pass_old (X := .slice (some ⟨g, 0, none⟩) n cap) 0 (Flow.met_none rfl) (.inl rfl) (by kernel_rfl) (by kernel_rfl) rfl ?_
    refine Flow.pass_old (X := .int .i64 ((x : Int))) 1 (Flow.met_none rfl) (.inl rfl) (by kernel_rfl) (by kernel_rfl) rfl ?_
    refine Flow.pass_val (.pointer (some ⟨g, x, none⟩)) (Flow.met_none rfl) (fun a W hH => ?_) ?_
    · have e0 := Flow.see_new 14 4 hH.sees (by kernel_rfl) (by kernel_rfl) rfl rfl
      have e1 := Flow.see_new 15 5 hH.sees (by kernel_rfl) (by kernel_rfl) rfl rfl
      exact s_ixS (s := 1) (x) _ rfl Tryz.underlying74 (by kernel_rfl) (by first | exact e0 | simpa [Act.eval] using e0 | (simp [Act.eval])) (by first | exact e1 | simpa [Act.eval] using e1 | (simp [Act.eval])) (by omega) (by omega) (by omega)
    refine Flow.pass_val (.int .u64 ((d[x]! : Nat) : Int)) (Flow.met_none rfl) (fun a W hH => ?_) ?_
    · have e0 := Flow.see_new 16 6 hH.sees (by kernel_rfl) (by kernel_rfl) rfl rfl
      have cc := nr_cell (hN_w.below ((Below.refl w.heap.size w).drew.trans hH.below) hN_w.lt) (x) (by omega); go_simp; first | done | rfl
    refine Flow.pass_step (Reg.eqs (.bool (ltN (d[y]!) (d[x]!)))) (fun _ _ => Flow.kept_eqs _ _) (Flow.met_none rfl) (fun a W hH => ?_) ?_
    · have e0 := Flow.see_new 13 3 hH.sees (by kernel_rfl) (by kernel_rfl) rfl rfl
      have e1 := Flow.see_new 17 7 hH.sees (by kernel_rfl) (by kernel_rfl) rfl rfl
      refine Reg.wp_call rfl Tryz.func162 rfl (by kernel_rfl) (by simp [Act.eval, e0, e1]) (lessN (d[y]!) (d[x]!) W) ?_
      rintro e w' ⟨rfl, rfl⟩
      exact ⟨_, rfl, _, rfl, Ext.refl _, rfl⟩
    refine Flow.pass_end [none, none, none, none, none, none, none, none, none, none, some 10, some 11, some 12, some 13, some 14, some 15, some 16, some 17, some 18, none, none, none, none, none, none, none, none, none] (by kernel_rfl) ?_
    intro f gg w9 hB hfa hT hfg
    have h18 : f 18 = _ := (hfg 18 8 (by kernel_rfl)).trans (hT 8 _ (by kernel_rfl) rfl)
    exact hQ1 f w9 ⟨h18, (Below.refl w.heap.size w).drew.trans hB⟩
  intro f W5 ⟨h18, hBW5⟩
  simp only [Reg.sel, h18]
  have hN_W5 := Blk.below hN_w hBW5 (Blk.lt hN_w)
  have hC_W5 := hC_w.trans (Chg.of_ext hBW5)
  have hs5 := Blk.below hs hBW5 hs.lt
  clear h18 hBW5 hs
  cases hq : ltN d[y]! d[x]! with
  | true =>
    have cc : World.cell? W5 ⟨zb, 0, none⟩ = some (.int .i64 s) := (Blk.cell hs5 0).trans rfl
    have hfr := Blk.frozen hs5 0
    have hset := Blk.set_ hs5 0 (.int .i64 (wrap64 (s + 1)))
    have hset : Blk (W5.setCell ⟨zb, 0, none⟩ (.int .i64 (wrap64 (s + 1)))) zb 3 #[.int .i64 (wrap64 (s + 1))] := hset
    have hgr := s_grown W5 zb 0 (.int .i64 (wrap64 (s + 1)))
    go_wp2
    go_ret2
    have hCC := hC_W5.trans (Chg.grown (Z := OnlyG zb) hgr (by rintro j h; cases h; rfl))
    exact ⟨y, x, .inr ⟨rfl, rfl⟩, rfl, ⟨Blk.chg hN_W5 (Chg.grown (Z := OnlyG zb) hgr (by rintro j h; cases h; rfl)) (fun e => hne (Eq.symm e)), ⟨_, hset⟩, hne⟩, hCC⟩
  | false =>
    go_wp2
    go_ret2
    exact ⟨x, y, .inl ⟨rfl, rfl⟩, rfl, ⟨hN_W5, ⟨s, hs5⟩, hne⟩, hC_W5⟩
set_option maxRecDepth 100000 in
set_option maxHeartbeats 2000000 in
theorem median_walk (g : Nat) (R : List Value) (d : Array Nat) (n cap x y z zb : Nat) (hn : d.size = n) (hx : x < n) (hy : y < n) (hz : z < n) (hn5 : n ≤ 1000000) (w : World) (hV : PV w g d R zb) :
    Calls Tryz.prog 179 #[.slice (some ⟨g, 0, none⟩) n cap, .int .i64 (x : Int), .int .i64 (y : Int), .int .i64 (z : Int), .pointer (some ⟨zb, 0, none⟩)] w fun e w' =>
      ∃ p : Nat, (p = x ∨ p = y ∨ p = z) ∧ e = .returned (.int .i64 (p : Int)) ∧ PV w' g d R zb ∧ Chg (OnlyG zb) w w' := by
  go_enter Tryz.func179, Tryz.ntmps179
  go_wp2_with fail
  refine Calls.mono (order2_walk g R d n cap x y zb hn hx hy hn5 w hV) ?_
  rintro e W1 ⟨p1, q1, h1, rfl, hV1, hC1⟩
  go_wp2_with fail
  refine Calls.mono (order2_walk g R d n cap q1 z zb hn (by omega) hz hn5 W1 hV1) ?_
  rintro e W2 ⟨p2, q2, h2, rfl, hV2, hC2⟩
  go_wp2_with fail
  refine Calls.mono (order2_walk g R d n cap p1 p2 zb hn (by omega) (by omega) hn5 W2 hV2) ?_
  rintro e W3 ⟨p3, q3, h3, rfl, hV3, hC3⟩
  go_wp2
  go_ret
  exact ⟨q3, by omega, rfl, hV3, (hC1.trans hC2).trans hC3⟩
set_option maxRecDepth 100000 in
set_option maxHeartbeats 2000000 in
theorem medianAdj_walk (g : Nat) (R : List Value) (d : Array Nat) (n cap x zb : Nat) (hn : d.size = n) (hx : 1 ≤ x) (hx2 : x + 1 < n) (hn5 : n ≤ 1000000) (w : World) (hV : PV w g d R zb) :
    Calls Tryz.prog 178 #[.slice (some ⟨g, 0, none⟩) n cap, .int .i64 (x : Int), .pointer (some ⟨zb, 0, none⟩)] w fun e w' =>
      ∃ p : Nat, (x ≤ p + 1 ∧ p ≤ x + 1) ∧ e = .returned (.int .i64 (p : Int)) ∧ PV w' g d R zb ∧ Chg (OnlyG zb) w w' := by
  have h1 : IntKind.i64.wrap ((x : Int) - 1) = ((x - 1 : Nat) : Int) := by rw [IntWalk.i64_in _ (by omega)]; omega
  have h2 : IntKind.i64.wrap ((x : Int) + 1) = ((x + 1 : Nat) : Int) := by rw [IntWalk.i64_in _ (by omega)]; omega
  have hcall := median_walk g R d n cap (x - 1) x (x + 1) zb hn (by omega) (by omega) hx2 hn5 w hV
  obtain ⟨xm, hxm⟩ : ∃ m, x - 1 = m := ⟨_, rfl⟩
  obtain ⟨xp, hxp⟩ : ∃ m, x + 1 = m := ⟨_, rfl⟩
  rw [hxm] at h1 hcall
  rw [hxp] at h2 hcall
  have HM := Lib.hid hxm
  have HP := Lib.hid hxp
  clear hxm hxp
  go_enter Tryz.func178, Tryz.ntmps178
  go_wp2_with fail
  refine Calls.mono hcall ?_
  rintro e W1 ⟨p, hp, rfl, hV1, hC1⟩
  go_wp2
  go_ret
  exact ⟨p, by have := HM.out; have := HP.out; omega, rfl, hV1, hC1⟩
set_option maxRecDepth 100000 in
set_option maxHeartbeats 2000000 in
theorem choosePivot_walk (g : Nat) (R : List Value) (d : Array Nat) (n cap lo hi : Nat) (hn : d.size = n) (hlo : lo + 12 < hi) (hhi : hi ≤ n) (hn5 : n ≤ 1000000) (w : World) (hN : NR w g d R) :
    Calls Tryz.prog 159 #[.slice (some ⟨g, 0, none⟩) n cap, .int .i64 (lo : Int), .int .i64 (hi : Int)] w fun e w' =>
      ∃ (p : Nat) (h : Int), (lo ≤ p ∧ p < hi) ∧ (h = 0 ∨ h = 1 ∨ h = 2) ∧ e = .returned (.tuple #[.int .i64 (p : Int), .int .i64 h]) ∧ NR w' g d R ∧ Below w.heap.size w w' := by
  obtain ⟨L, hL⟩ : ∃ L, hi - lo = L := ⟨_, rfl⟩
  obtain ⟨Q, hQ⟩ : ∃ Q, L / 4 = Q := ⟨_, rfl⟩
  have hLi : IntKind.i64.wrap ((hi : Int) - (lo : Int)) = (L : Int) := by rw [IntWalk.i64_in _ (by omega)]; omega
  have hQi : (L : Int) / 4 = (Q : Int) := by omega
  have hQt : (L : Int).tdiv 4 = (Q : Int) := by rw [Int.tdiv_eq_ediv_of_nonneg (by omega)]; omega
  have k1 : IntKind.i64.wrap ((lo : Int) + (Q : Int)) = ((lo + Q : Nat) : Int) := by rw [IntWalk.i64_in _ (by omega)]; omega
  have k2 : IntKind.i64.wrap ((lo : Int) + (Q : Int) * 2) = ((lo + Q * 2 : Nat) : Int) := by rw [IntWalk.i64_in _ (by omega)]; omega
  have k3 : IntKind.i64.wrap ((lo : Int) + (Q : Int) * 3) = ((lo + Q * 3 : Nat) : Int) := by rw [IntWalk.i64_in _ (by omega)]; omega
  obtain ⟨i1, hi1⟩ : ∃ i, lo + Q = i := ⟨_, rfl⟩
  obtain ⟨j1, hj1⟩ : ∃ i, lo + Q * 2 = i := ⟨_, rfl⟩
  obtain ⟨k1', hk1'⟩ : ∃ i, lo + Q * 3 = i := ⟨_, rfl⟩
  rw [hi1] at k1
  rw [hj1] at k2
  rw [hk1'] at k3
  have k4 : IntKind.i64.wrap ((Q : Int) * 2) = (Q : Int) * 2 := IntWalk.i64_in _ (by omega)
  have k5 : IntKind.i64.wrap ((Q : Int) * 3) = (Q : Int) * 3 := IntWalk.i64_in _ (by omega)
  have k6 : IntKind.i64.wrap (Q : Int) = (Q : Int) := IntWalk.i64_in _ (by omega)
  have hb0 := Blk.new w 3 #[.int .i64 0]
  have hglt := hN.lt
  have B0 : Below w.heap.size w (w.alloc (.cells #[.int .i64 0] 3)) := (Below.refl _ _).alloc (Nat.le_refl _) _
  have hV0 : PV (w.alloc (.cells #[.int .i64 0] 3)) g d R w.heap.size := ⟨Blk.below hN B0 hN.lt, ⟨_, hb0⟩, by omega⟩
  have hL8 : (8 : Int) ≤ (L : Int) := by omega
  have hbel : ∀ W', Chg (OnlyG w.heap.size) (w.alloc (.cells #[.int .i64 0] 3)) W' → Below w.heap.size w W' := fun W' h => B0.trans (h.below (by rintro k rfl; exact Nat.le_refl _) B0.size)
  clear hN hb0 B0
  have HL := Lib.hid hL
  have HQ := Lib.hid hQ
  have hQ3 : 3 ≤ Q ∧ Q * 4 ≤ L ∧ lo + L = hi := by omega
  have HQ3 : Hid (3 ≤ Q ∧ Q * 4 ≤ L ∧ lo + L = hi ∧ lo + Q = i1 ∧ lo + Q * 2 = j1 ∧ lo + Q * 3 = k1') := Lib.hid (by omega)
  clear hL hQ hQ3 hi1 hj1 hk1'
  go_enter Tryz.func159, Tryz.ntmps159
  by_cases h50 : 50 ≤ L
  · have h50i : (50 : Int) ≤ (L : Int) := by omega
    go_wp2_with fail
    generalize w.alloc (.cells #[.int .i64 0] 3) = W0 at *
    have q3 := HQ3.out
    have hQ12 : 12 ≤ Q := by have := HQ.out; omega
    have q4 := Lib.hid q3
    have r1 : 1 ≤ i1 ∧ i1 + 1 < n ∧ 1 ≤ j1 ∧ j1 + 1 < n ∧ 1 ≤ k1' ∧ k1' + 1 < n := by omega
    have r2 : lo < i1 ∧ i1 + 1 < hi ∧ lo < j1 ∧ j1 + 1 < hi ∧ lo < k1' ∧ k1' + 1 < hi := by omega
    have R1 := Lib.hid r1
    have R2 := Lib.hid r2
    clear q3 q4 hQ12 r1 r2
    refine Calls.mono (medianAdj_walk g R d n cap i1 w.heap.size hn (by have := R1.out; omega) (by have := R1.out; omega) hn5 W0 hV0) ?_
    rintro e W1 ⟨pi, hpi, rfl, hV1, hC1⟩
    go_wp2_with fail
    refine Calls.mono (medianAdj_walk g R d n cap j1 w.heap.size hn (by have := R1.out; omega) (by have := R1.out; omega) hn5 W1 hV1) ?_
    rintro e W2 ⟨pj, hpj, rfl, hV2, hC2⟩
    go_wp2_with fail
    refine Calls.mono (medianAdj_walk g R d n cap k1' w.heap.size hn (by have := R1.out; omega) (by have := R1.out; omega) hn5 W2 hV2) ?_
    rintro e W3 ⟨pk, hpk, rfl, hV3, hC3⟩
    go_wp2_with fail
    refine Calls.mono (median_walk g R d n cap pi pj pk w.heap.size hn (by have := R1.out; omega) (by have := R1.out; omega) (by have := R1.out; omega) hn5 W3 hV3) ?_
    rintro e W4 ⟨p, hp, rfl, hV4, hC4⟩
    have hbel4 := hbel W4 (((hC1.trans hC2).trans hC3).trans hC4)
    have hpr : lo ≤ p ∧ p < hi := by have := R2.out; omega
    have hpr := Lib.hid hpr
    clear k1 k2 k3 k4 k5 k6 hQi hQt hLi
    obtain ⟨s, hs⟩ := hV4.cnt
    have cc : World.cell? W4 ⟨w.heap.size, 0, none⟩ = some (.int .i64 s) := (Blk.cell hs 0).trans rfl
    have hN9 := hV4.row
    by_cases hs0 : s = 0
    · subst hs0
      go_wp2
      go_ret2
      exact ⟨_, 1, hpr.out, .inr (.inl rfl), rfl, hN9, hbel4⟩
    · have hs0b : (s == 0) = false := by simpa using hs0
      by_cases hs1 : s = 12
      · subst hs1
        go_wp2
        go_ret2
        exact ⟨_, 2, hpr.out, .inr (.inr rfl), rfl, hN9, hbel4⟩
      · have hs1b : (s == 12) = false := by simpa using hs1
        go_wp2
        go_ret2
        exact ⟨_, 0, hpr.out, .inl rfl, rfl, hN9, hbel4⟩
  · have h50i : ¬ (50 : Int) ≤ (L : Int) := by omega
    go_wp2_with fail
    generalize w.alloc (.cells #[.int .i64 0] 3) = W0 at *
    have q3 := HQ3.out
    refine Calls.mono (median_walk g R d n cap i1 j1 k1' w.heap.size hn (by omega) (by omega) (by omega) hn5 W0 hV0) ?_
    rintro e W4 ⟨p, hp, rfl, hV4, hC4⟩
    have hbel4 := hbel W4 hC4
    have hpr : lo ≤ p ∧ p < hi := by omega
    have hpr := Lib.hid hpr
    clear k1 k2 k3 k4 k5 k6 hQi hQt hLi
    obtain ⟨s, hs⟩ := hV4.cnt
    have cc : World.cell? W4 ⟨w.heap.size, 0, none⟩ = some (.int .i64 s) := (Blk.cell hs 0).trans rfl
    have hN9 := hV4.row
    by_cases hs0 : s = 0
    · subst hs0
      go_wp2
      go_ret2
      exact ⟨_, 1, hpr.out, .inr (.inl rfl), rfl, hN9, hbel4⟩
    · have hs0b : (s == 0) = false := by simpa using hs0
      by_cases hs1 : s = 12
      · subst hs1
        go_wp2
        go_ret2
        exact ⟨_, 2, hpr.out, .inr (.inr rfl), rfl, hN9, hbel4⟩
      · have hs1b : (s == 12) = false := by simpa using hs1
        go_wp2
        go_ret2
        exact ⟨_, 0, hpr.out, .inl rfl, rfl, hN9, hbel4⟩
end Go.Proofs.YtipdmhppadapkaaGreatDoor
/-
  Walk: partitionOrdered at uint64.
-/
namespace Go.Proofs.YtipdmhppadapkaaGreatDoor
open Go.RowKit

theorem scanUp_step {p : Nat → Bool} {d : Array Nat} {j i : Nat} (h : (decide (i ≤ j) && p d[i]!) = true) : Sort.scanUp p d j i = Sort.scanUp p d j (i + 1) := by rw [Sort.scanUp, if_pos h]
theorem scanUp_stop {p : Nat → Bool} {d : Array Nat} {j i : Nat} (h : (decide (i ≤ j) && p d[i]!) = false) : Sort.scanUp p d j i = i := by rw [Sort.scanUp, if_neg (by rw [h]; simp)]
theorem scanDown_step {p : Nat → Bool} {d : Array Nat} {i j : Nat} (hj : 0 < j) (h : (decide (i ≤ j) && p d[j]!) = true) : Sort.scanDown p d i j = Sort.scanDown p d i (j - 1) := by
  obtain ⟨k, rfl⟩ : ∃ k, j = k + 1 := ⟨j - 1, by omega⟩
  rw [Sort.scanDown, if_pos h, Nat.add_sub_cancel]
theorem scanDown_stop {p : Nat → Bool} {d : Array Nat} {i j : Nat} (h : (decide (i ≤ j) && p d[j]!) = false) : Sort.scanDown p d i j = j := by
  match j, h with
  | 0, _ => rfl
  | k + 1, h => rw [Sort.scanDown, if_neg (by rw [h]; simp)]
theorem partLoop_stop {a i j i2 j2 : Nat} {d : Array Nat} (h1 : Sort.scanUp (fun x => ltN x d[a]!) d j i = i2) (h2 : Sort.scanDown (fun x => !ltN x d[a]!) d i2 j = j2) (h : j2 < i2) : Sort.partLoop ltN a i j d = (j2, d) := by
  rw [Sort.partLoop]; subst h1; subst h2; (try simp only []); rw [if_pos h]
theorem partLoop_step {a i j i2 j2 : Nat} {d : Array Nat} (h1 : Sort.scanUp (fun x => ltN x d[a]!) d j i = i2) (h2 : Sort.scanDown (fun x => !ltN x d[a]!) d i2 j = j2) (h : ¬ j2 < i2) (hi : i ≤ i2) (hj : j2 ≤ j) (h0 : 0 < i2) :
    Sort.partLoop ltN a i j d = Sort.partLoop ltN a (i2 + 1) (j2 - 1) (Sort.swp d i2 j2) := by
  rw [Sort.partLoop]; subst h1; subst h2; (try simp only []); rw [if_neg h, dif_pos (by omega)]
theorem partEq_stop {a i j i2 j2 : Nat} {d : Array Nat} (h1 : Sort.scanUp (fun x => !ltN d[a]! x) d j i = i2) (h2 : Sort.scanDown (fun x => ltN d[a]! x) d i2 j = j2) (h : j2 < i2) : Sort.partEqLoop ltN a i j d = (i2, d) := by
  rw [Sort.partEqLoop]; subst h1; subst h2; (try simp only []); rw [if_pos h]
theorem partEq_step {a i j i2 j2 : Nat} {d : Array Nat} (h1 : Sort.scanUp (fun x => !ltN d[a]! x) d j i = i2) (h2 : Sort.scanDown (fun x => ltN d[a]! x) d i2 j = j2) (h : ¬ j2 < i2) (hi : i ≤ i2) (hj : j2 ≤ j) (h0 : 0 < i2) :
    Sort.partEqLoop ltN a i j d = Sort.partEqLoop ltN a (i2 + 1) (j2 - 1) (Sort.swp d i2 j2) := by
  rw [Sort.partEqLoop]; subst h1; subst h2; (try simp only []); rw [if_neg h, dif_pos (by omega)]

set_option maxRecDepth 100000 in
set_option maxHeartbeats 4000000 in
theorem partition_walk (g : Nat) (R : List Value) (d : Array Nat) (n cap lo hi pv : Nat) (hn : d.size = n) (hlo : lo ≤ pv) (hpv : pv < hi) (hhi : hi ≤ n) (hn5 : n ≤ 1000000) (w : World) (hN_w : NR w g d R) :
    Calls Tryz.prog 164 #[.slice (some ⟨g, 0, none⟩) n cap, .int .i64 (lo : Int), .int .i64 (hi : Int), .int .i64 (pv : Int)] w fun e w' =>
      e = .returned (.tuple #[.int .i64 (((Sort.partition ltN d lo hi pv).1 : Nat) : Int), .bool (Sort.partition ltN d lo hi pv).2.1]) ∧ NR w' g (Sort.partition ltN d lo hi pv).2.2 R ∧ Chg (OnlyG g) w w' := by
  obtain ⟨RES, hRES⟩ : ∃ X, Sort.partition ltN d lo hi pv = X := ⟨_, rfl⟩
  rw [hRES]
  obtain ⟨d1, hd1⟩ : ∃ X, Sort.swp d lo pv = X := ⟨_, rfl⟩
  obtain ⟨jj, hjj⟩ : ∃ j, hi - 1 = j := ⟨_, rfl⟩
  have HRES : Hid ((if Sort.scanDown (fun x => !ltN x d1[lo]!) d1 (Sort.scanUp (fun x => ltN x d1[lo]!) d1 jj (lo + 1)) jj < Sort.scanUp (fun x => ltN x d1[lo]!) d1 jj (lo + 1) then
      (Sort.scanDown (fun x => !ltN x d1[lo]!) d1 (Sort.scanUp (fun x => ltN x d1[lo]!) d1 jj (lo + 1)) jj, true, Sort.swp d1 (Sort.scanDown (fun x => !ltN x d1[lo]!) d1 (Sort.scanUp (fun x => ltN x d1[lo]!) d1 jj (lo + 1)) jj) lo)
      else ((Sort.partLoop ltN lo (Sort.scanUp (fun x => ltN x d1[lo]!) d1 jj (lo + 1) + 1) (Sort.scanDown (fun x => !ltN x d1[lo]!) d1 (Sort.scanUp (fun x => ltN x d1[lo]!) d1 jj (lo + 1)) jj - 1) (Sort.swp d1 (Sort.scanUp (fun x => ltN x d1[lo]!) d1 jj (lo + 1)) (Sort.scanDown (fun x => !ltN x d1[lo]!) d1 (Sort.scanUp (fun x => ltN x d1[lo]!) d1 jj (lo + 1)) jj))).1, false,
        Sort.swp (Sort.partLoop ltN lo (Sort.scanUp (fun x => ltN x d1[lo]!) d1 jj (lo + 1) + 1) (Sort.scanDown (fun x => !ltN x d1[lo]!) d1 (Sort.scanUp (fun x => ltN x d1[lo]!) d1 jj (lo + 1)) jj - 1) (Sort.swp d1 (Sort.scanUp (fun x => ltN x d1[lo]!) d1 jj (lo + 1)) (Sort.scanDown (fun x => !ltN x d1[lo]!) d1 (Sort.scanUp (fun x => ltN x d1[lo]!) d1 jj (lo + 1)) jj))).2
          (Sort.partLoop ltN lo (Sort.scanUp (fun x => ltN x d1[lo]!) d1 jj (lo + 1) + 1) (Sort.scanDown (fun x => !ltN x d1[lo]!) d1 (Sort.scanUp (fun x => ltN x d1[lo]!) d1 jj (lo + 1)) jj - 1) (Sort.swp d1 (Sort.scanUp (fun x => ltN x d1[lo]!) d1 jj (lo + 1)) (Sort.scanDown (fun x => !ltN x d1[lo]!) d1 (Sort.scanUp (fun x => ltN x d1[lo]!) d1 jj (lo + 1)) jj))).1 lo)) = RES) := Lib.hid (by rw [← hRES, ← hd1, ← hjj]; rfl)
  have HRES : Hid (RES = _) := Lib.hid HRES.out.symm
  have hC_w := Chg.refl (OnlyG g) w
  have hn1 : d1.size = n := by rw [← hd1, swp_size]; exact hn
  clear hRES
  go_enter Tryz.func164, Tryz.ntmps164
  go_wp2_with fail
  refine Flow.wp_region_flow (g) [(13, fun b => b = g), (15, fun b => b = g)] [(7, fun W => NR W g d R), (11, fun W => NR W g d R), (13, fun W => NR W g d R), (16, fun W => Chg (OnlyG g) w W)] (by kernel_rfl) (by kernel_rfl) (Nat.le_of_lt hN_w.lt) (Flow.nz_cons (by rintro b rfl; exact Nat.le_refl _) (Flow.nz_cons (by rintro b rfl; exact Nat.le_refl _) Flow.nz_nil)) (Flow.facts_cons (hN_w.drew) (Flow.kept_blk id) (Flow.fz_cons (Flow.no_follow (by kernel_rfl)) (Flow.fz_cons (Flow.no_follow (by kernel_rfl)) Flow.fz_nil)) (Flow.facts_cons (hN_w.drew) (Flow.kept_blk id) (Flow.fz_cons (Flow.no_follow (by kernel_rfl)) (Flow.fz_cons (Flow.no_follow (by kernel_rfl)) Flow.fz_nil)) (Flow.facts_cons (hN_w.drew) (Flow.kept_blk id) (Flow.fz_cons (Flow.no_follow (by kernel_rfl)) (Flow.fz_cons (Flow.no_follow (by kernel_rfl)) Flow.fz_nil)) (Flow.facts_cons ((Chg.refl _ _).drew) (fun _ _ c h => onlyg_trans h c (by first | exact fun _ hj => hj | exact fun _ hj => hj.elim)) (Flow.fz_cons (fun _ => fun _ _ c h => onlyg_trans h c (by first | exact fun _ hj => hj | exact fun _ hj => hj.elim)) (Flow.fz_cons (fun _ => fun _ _ c h => onlyg_trans h c (by first | exact fun _ hj => hj | exact fun _ hj => hj.elim)) Flow.fz_nil)) Flow.facts_nil)))) ?_
  refine Flow.pass_old (X := .slice (some ⟨g, 0, none⟩) n cap) 0 (Flow.met_none rfl) (.inl rfl) (by kernel_rfl) (by kernel_rfl) rfl ?_
  refine Flow.pass_old (X := .int .i64 ((lo : Int))) 1 (Flow.met_none rfl) (.inl rfl) (by kernel_rfl) (by kernel_rfl) rfl ?_
  refine Flow.pass_old (X := .slice (some ⟨g, 0, none⟩) n cap) 0 (Flow.met_none rfl) (.inl rfl) (by kernel_rfl) (by kernel_rfl) rfl ?_
  refine Flow.pass_old (X := .int .i64 ((pv : Int))) 3 (Flow.met_none rfl) (.inl rfl) (by kernel_rfl) (by kernel_rfl) rfl ?_
  refine Flow.pass_old (X := .slice (some ⟨g, 0, none⟩) n cap) 0 (Flow.met_none rfl) (.inl rfl) (by kernel_rfl) (by kernel_rfl) rfl ?_
  refine Flow.pass_old (X := .int .i64 ((pv : Int))) 3 (Flow.met_none rfl) (.inl rfl) (by kernel_rfl) (by kernel_rfl) rfl ?_
  refine Flow.pass_val (.pointer (some ⟨g, pv, none⟩)) (Flow.met_none rfl) (fun a W hH => ?_) ?_
  · have e0 := Flow.see_new 16 4 hH.sees (by kernel_rfl) (by kernel_rfl) rfl rfl
    have e1 := Flow.see_new 17 5 hH.sees (by kernel_rfl) (by kernel_rfl) rfl rfl
    exact s_ixS (s := 1) (pv) _ rfl Tryz.underlying74 (by kernel_rfl) (by first | exact e0 | simpa [Act.eval] using e0 | (simp [Act.eval])) (by first | exact e1 | simpa [Act.eval] using e1 | (simp [Act.eval])) (by omega) (by omega) (by omega)
  refine Flow.pass_val (.int .u64 ((d[pv]! : Nat) : Int)) (Flow.met_none rfl) (fun a W hH => ?_) ?_
  · have e0 := Flow.see_new 18 6 hH.sees (by kernel_rfl) (by kernel_rfl) rfl rfl
    have fa0 : (fun W => NR W g d R) W := hH.fact _ (List.mem_of_getElem? (i := 0) rfl) rfl
    have cc := nr_cell fa0 (pv) (by omega); go_simp; first | done | rfl
  refine Flow.pass_old (X := .slice (some ⟨g, 0, none⟩) n cap) 0 (Flow.met_none rfl) (.inl rfl) (by kernel_rfl) (by kernel_rfl) rfl ?_
  refine Flow.pass_old (X := .int .i64 ((lo : Int))) 1 (Flow.met_none rfl) (.inl rfl) (by kernel_rfl) (by kernel_rfl) rfl ?_
  refine Flow.pass_val (.pointer (some ⟨g, lo, none⟩)) (Flow.met_none rfl) (fun a W hH => ?_) ?_
  · have e0 := Flow.see_new 20 8 hH.sees (by kernel_rfl) (by kernel_rfl) rfl rfl
    have e1 := Flow.see_new 21 9 hH.sees (by kernel_rfl) (by kernel_rfl) rfl rfl
    exact s_ixS (s := 1) (lo) _ rfl Tryz.underlying74 (by kernel_rfl) (by first | exact e0 | simpa [Act.eval] using e0 | (simp [Act.eval])) (by first | exact e1 | simpa [Act.eval] using e1 | (simp [Act.eval])) (by omega) (by omega) (by omega)
  refine Flow.pass_val (.int .u64 ((d[lo]! : Nat) : Int)) (Flow.met_none rfl) (fun a W hH => ?_) ?_
  · have e0 := Flow.see_new 22 10 hH.sees (by kernel_rfl) (by kernel_rfl) rfl rfl
    have fa1 : (fun W => NR W g d R) W := hH.fact _ (List.mem_of_getElem? (i := 1) rfl) rfl
    have cc := nr_cell fa1 (lo) (by omega); go_simp; first | done | rfl
  refine Flow.pass_val (.pointer (some ⟨g, lo, none⟩)) (Flow.met_none rfl) (fun a W hH => ?_) ?_
  · have e0 := Flow.see_new 12 0 hH.sees (by kernel_rfl) (by kernel_rfl) rfl rfl
    have e1 := Flow.see_new 13 1 hH.sees (by kernel_rfl) (by kernel_rfl) rfl rfl
    exact s_ixS (s := 1) (lo) _ rfl Tryz.underlying74 (by kernel_rfl) (by first | exact e0 | simpa [Act.eval] using e0 | (simp [Act.eval])) (by first | exact e1 | simpa [Act.eval] using e1 | (simp [Act.eval])) (by omega) (by omega) (by omega)
  refine Flow.pass_lin [15] (fun _ W => NR W g (d.setIfInBounds (lo) (d[pv]!)) R) (Flow.kept_lin [15] (fun _ _ _ c h => h.chg c id) (Flow.lz_cons (Flow.no_follow (by kernel_rfl)) (Flow.lz_cons (fun _ => .inl rfl) Flow.lz_nil))) (Flow.met_none rfl) (fun a W hH => ?_) ?_
  · have e0 := Flow.see_new 24 12 hH.sees (by kernel_rfl) (by kernel_rfl) rfl rfl
    have e1 := Flow.see_new 19 7 hH.sees (by kernel_rfl) (by kernel_rfl) rfl rfl
    have fa2 : (fun W => NR W g d R) W := hH.fact _ (List.mem_of_getElem? (i := 2) rfl) rfl
    refine s_skip (s_store rfl (by kernel_rfl) fa2 e0 e1 (nr_size (by omega))) ?_
    exact ⟨_, rfl, Chg.grown (s_grown _ _ _ _) (by rintro j h; cases h; rfl), nr_set fa2 _ (by omega) _⟩
  refine Flow.pass_val (.pointer (some ⟨g, pv, none⟩)) (Flow.met_none rfl) (fun a W hH => ?_) ?_
  · have e0 := Flow.see_new 14 2 hH.sees (by kernel_rfl) (by kernel_rfl) rfl rfl
    have e1 := Flow.see_new 15 3 hH.sees (by kernel_rfl) (by kernel_rfl) rfl rfl
    exact s_ixS (s := 1) (pv) _ rfl Tryz.underlying74 (by kernel_rfl) (by first | exact e0 | simpa [Act.eval] using e0 | (simp [Act.eval])) (by first | exact e1 | simpa [Act.eval] using e1 | (simp [Act.eval])) (by omega) (by omega) (by omega)
  refine Flow.pass_gen (fun _ W => NR W g ((d.setIfInBounds (lo) (d[pv]!)).setIfInBounds (pv) (d[lo]!)) R) (Flow.kept_of (fun _ _ _ c h => h.chg c id) (Flow.kz_cons (Flow.no_follow (by kernel_rfl)) (Flow.kz_cons (Flow.no_follow (by kernel_rfl)) Flow.kz_nil))) (Flow.met_none rfl) (fun a W hH => ?_) ?_
  · have e0 := Flow.see_new 25 14 hH.sees (by kernel_rfl) (by kernel_rfl) rfl rfl
    have e1 := Flow.see_new 23 11 hH.sees (by kernel_rfl) (by kernel_rfl) rfl rfl
    obtain ⟨_, hP⟩ := Flow.past_lin 13 hH.past (by kernel_rfl) (by kernel_rfl) rfl (by kernel_rfl)
    refine s_skip (s_store rfl (by kernel_rfl) hP e0 e1 (nr_size (by rw [Array.size_setIfInBounds]; omega))) ?_
    exact ⟨_, rfl, Chg.grown (s_grown _ _ _ _) (by rintro j h; cases h; rfl), nr_set hP _ (by rw [Array.size_setIfInBounds]; omega) _⟩
  refine Flow.pass_end [none, none, none, none, none, none, none, none, none, none, none, none, some 12, some 13, some 14, some 15, some 16, some 17, some 18, some 19, some 20, some 21, some 22, some 23, some 24, some 25, none, none, none, none, none, none, none, none, none, none, none, none, none, none, none, none, none, none, none, none, none, none, none, none, none, none, none, none, none, none, none, none, none, none, none, none, none, none, none, none, none, none, none, none, none, none, none, none, none, none, none, none, none, none, none, none, none, none, none, none, none, none, none, none, none, none, none, none, none, none, none, none, none, none, none, none, none, none, none, none, none, none, none, none, none, none, none, none, none, none, none, none, none, none, none, none, none, none, none, none, none, none, none, none, none, none, none, none, none, none, none, none, none, none, none, none, none, none, none, none, none, none, none, none, none, none, none, none, none, none, none, none, none, none, none, none, none, none, none, none, none, none] (by kernel_rfl) ?_
  intro f gg w9 hB hfa hT hfg
  have F3 : (fun W => Chg (OnlyG g) w W) w9 := hfa _ (List.mem_of_getElem? (i := 3) rfl) (Nat.le_refl _)
  have hN_W5 : NR w9 g (Sort.swp d (lo) (pv)) R := hT 15 _ (by kernel_rfl) rfl
  have hC_W5 := hC_w.trans F3
  simp only [Reg.sel]
  obtain ⟨W5, hWW5⟩ : ∃ W, W = w9 := ⟨_, rfl⟩
  subst hWW5
  clear hT hfg hfa hB F3
  rw [hd1] at hN_W5
  have hjw : IntKind.i64.wrap ((hi : Int) - 1) = (jj : Int) := by rw [IntWalk.i64_in _ (by omega)]; omega
  have hjj2 : jj < hi := by omega
  have HJJ := Lib.hid hjj
  clear hd1 hjj hN_w
  go_wp2
  obtain ⟨IU, hIU⟩ : ∃ u, Sort.scanUp (fun x => ltN x d1[lo]!) d1 jj (lo + 1) = u := ⟨_, rfl⟩
  have hIU := Lib.hid hIU
  try go_wp2
  go_loopw [10] (fun i wr => ∃ x : Nat, (lo + 1) ≤ x ∧ x ≤ hi ∧ i = .int .i64 (x : Int) ∧ Hid (Sort.scanUp (fun x => ltN x d1[lo]!) d1 jj x = IU) ∧ NR wr g d1 R ∧ Chg (OnlyG g) w wr) (fun i _ => hi + 1 - (intOf i).toNat)
  case atStart => exact ⟨(lo + 1), Nat.le_refl _, by omega, by first | rfl | go_num, hIU, hN_W5, hC_W5⟩
  case round =>
    obtain ⟨x, hx1, hx2, rfl, hS, hN_wr, hC_wr⟩ := hrel
    go_upto_region 3 with (fail)
    refine s_cut [none, none, none, none, none, none, none, none, none, none, none, none, none, none, none, none, none, none, none, none, none, none, none, none, none, none, none, none, none, none, some 30, some 31, some 32, some 33, some 34, some 35, some 36, some 37, some 38, some 39, some 40, some 41, some 42, some 43, none, none, none, none, none, none, none, none, none, none, none, none, none, none, none, none, none, none, none, none, none, none, none, none, none, none, none, none, none, none, none, none, none, none, none, none, none, none, none, none, none, none, none, none, none, none, none, none, none, none, none, none, none, none, none, none, none, none, none, none, none, none, none, none, none, none, none, none, none, none, none, none, none, none, none, none, none, none, none, none, none, none, none, none, none, none, none, none, none, none, none, none, none, none, none, none, none, none, none, none, none, none, none, none, none, none, none, none, none, none, none, none, none, none, none, none, none, none, none, none, none, none, none, none] (fun f W => f 43 = .bool (decide (x ≤ jj) && ltN d1[x]! d1[lo]!) ∧ Below wr.heap.size wr W) (fun Q1 hQ1 => ?_) ?_
    · by_cases hg : x ≤ jj
      · skip
        refine Flow.wp_region_flow (wr.heap.size) [] [] (by kernel_rfl) (by kernel_rfl) (Nat.le_refl _) (fun _ h => by cases h) Flow.facts_nil ?_
        refine Flow.pass_old (X := .int .i64 ((x : Int))) 10 (Flow.met_none rfl) (.inl rfl) (by kernel_rfl) (by kernel_rfl) rfl ?_
        refine Flow.pass_old (X := .int .i64 ((jj : Int))) 11 (Flow.met_none rfl) (.inl rfl) (by kernel_rfl) (by kernel_rfl) rfl ?_
        refine Flow.pass_val (.bool true) (Flow.met_none rfl) (fun a W hH => ?_) ?_
        · have e0 := Flow.see_new 30 0 hH.sees (by kernel_rfl) (by kernel_rfl) rfl rfl
          have e1 := Flow.see_new 31 1 hH.sees (by kernel_rfl) (by kernel_rfl) rfl rfl
          go_simp; first | done | rfl | omega | (simp; done) | (simp; omega) | exact decide_eq_true (by omega) | exact decide_eq_false (by omega)
        refine Flow.pass_copy 32 2 (Flow.met_none rfl) (.inl rfl) (by kernel_rfl) (by kernel_rfl) rfl rfl (fun _ _ => Flow.kept_eqs _ _) ?_
        refine Flow.pass_old (X := .slice (some ⟨g, 0, none⟩) n cap) 0 (Flow.met_some 3 true 33 rfl rfl (by kernel_rfl) (by kernel_rfl) rfl rfl) (.inl rfl) (by kernel_rfl) (by kernel_rfl) rfl ?_
        refine Flow.pass_old (X := .int .i64 ((x : Int))) 10 (Flow.met_some 3 true 33 rfl rfl (by kernel_rfl) (by kernel_rfl) rfl rfl) (.inl rfl) (by kernel_rfl) (by kernel_rfl) rfl ?_
        refine Flow.pass_val (.pointer (some ⟨g, x, none⟩)) (Flow.met_some 3 true 33 rfl rfl (by kernel_rfl) (by kernel_rfl) rfl rfl) (fun a W hH => ?_) ?_
        · have e0 := Flow.see_new 34 4 hH.sees (by kernel_rfl) (by kernel_rfl) rfl rfl
          have e1 := Flow.see_new 35 5 hH.sees (by kernel_rfl) (by kernel_rfl) rfl rfl
          exact s_ixS (s := 1) (x) _ rfl Tryz.underlying74 (by kernel_rfl) (by first | exact e0 | simpa [Act.eval] using e0 | (simp [Act.eval])) (by first | exact e1 | simpa [Act.eval] using e1 | (simp [Act.eval])) (by omega) (by omega) (by omega)
        refine Flow.pass_val (.int .u64 ((d1[x]! : Nat) : Int)) (Flow.met_some 3 true 33 rfl rfl (by kernel_rfl) (by kernel_rfl) rfl rfl) (fun a W hH => ?_) ?_
        · have e0 := Flow.see_new 36 6 hH.sees (by kernel_rfl) (by kernel_rfl) rfl rfl
          have cc := nr_cell (hN_wr.below ((Below.refl wr.heap.size wr).drew.trans hH.below) hN_wr.lt) (x) (by omega); go_simp; first | done | rfl
        refine Flow.pass_old (X := .slice (some ⟨g, 0, none⟩) n cap) 0 (Flow.met_some 3 true 33 rfl rfl (by kernel_rfl) (by kernel_rfl) rfl rfl) (.inl rfl) (by kernel_rfl) (by kernel_rfl) rfl ?_
        refine Flow.pass_old (X := .int .i64 ((lo : Int))) 1 (Flow.met_some 3 true 33 rfl rfl (by kernel_rfl) (by kernel_rfl) rfl rfl) (.inl rfl) (by kernel_rfl) (by kernel_rfl) rfl ?_
        refine Flow.pass_val (.pointer (some ⟨g, lo, none⟩)) (Flow.met_some 3 true 33 rfl rfl (by kernel_rfl) (by kernel_rfl) rfl rfl) (fun a W hH => ?_) ?_
        · have e0 := Flow.see_new 38 8 hH.sees (by kernel_rfl) (by kernel_rfl) rfl rfl
          have e1 := Flow.see_new 39 9 hH.sees (by kernel_rfl) (by kernel_rfl) rfl rfl
          exact s_ixS (s := 1) (lo) _ rfl Tryz.underlying74 (by kernel_rfl) (by first | exact e0 | simpa [Act.eval] using e0 | (simp [Act.eval])) (by first | exact e1 | simpa [Act.eval] using e1 | (simp [Act.eval])) (by omega) (by omega) (by omega)
        refine Flow.pass_val (.int .u64 ((d1[lo]! : Nat) : Int)) (Flow.met_some 3 true 33 rfl rfl (by kernel_rfl) (by kernel_rfl) rfl rfl) (fun a W hH => ?_) ?_
        · have e0 := Flow.see_new 40 10 hH.sees (by kernel_rfl) (by kernel_rfl) rfl rfl
          have cc := nr_cell (hN_wr.below ((Below.refl wr.heap.size wr).drew.trans hH.below) hN_wr.lt) (lo) (by omega); go_simp; first | done | rfl
        refine Flow.pass_step (Reg.eqs (.bool (ltN (d1[x]!) (d1[lo]!)))) (fun _ _ => Flow.kept_eqs _ _) (Flow.met_some 3 true 33 rfl rfl (by kernel_rfl) (by kernel_rfl) rfl rfl) (fun a W hH => ?_) ?_
        · have e0 := Flow.see_new 37 7 hH.sees (by kernel_rfl) (by kernel_rfl) rfl rfl
          have e1 := Flow.see_new 41 11 hH.sees (by kernel_rfl) (by kernel_rfl) rfl rfl
          refine Reg.wp_call rfl Tryz.func162 rfl (by kernel_rfl) (by simp [Act.eval, e0, e1]) (lessN (d1[x]!) (d1[lo]!) W) ?_
          rintro e w' ⟨rfl, rfl⟩
          exact ⟨_, rfl, _, rfl, Ext.refl _, rfl⟩
        refine Flow.pass_val (.bool (ltN (d1[x]!) (d1[lo]!))) (Flow.met_none rfl) (fun a W hH => ?_) ?_
        · have e0 := Flow.see_new 33 3 hH.sees (by kernel_rfl) (by kernel_rfl) rfl rfl
          have e1 := Flow.see_new 42 12 hH.sees (by kernel_rfl) (by kernel_rfl) rfl rfl
          go_simp; first | done | rfl
        refine Flow.pass_end [none, none, none, none, none, none, none, none, none, none, none, none, none, none, none, none, none, none, none, none, none, none, none, none, none, none, none, none, none, none, some 30, some 31, some 32, some 33, some 34, some 35, some 36, some 37, some 38, some 39, some 40, some 41, some 42, some 43, none, none, none, none, none, none, none, none, none, none, none, none, none, none, none, none, none, none, none, none, none, none, none, none, none, none, none, none, none, none, none, none, none, none, none, none, none, none, none, none, none, none, none, none, none, none, none, none, none, none, none, none, none, none, none, none, none, none, none, none, none, none, none, none, none, none, none, none, none, none, none, none, none, none, none, none, none, none, none, none, none, none, none, none, none, none, none, none, none, none, none, none, none, none, none, none, none, none, none, none, none, none, none, none, none, none, none, none, none, none, none, none, none, none, none, none, none, none, none, none, none, none, none, none] (by kernel_rfl) ?_
        intro f gg w9 hB hfa hT hfg
        have h43 : f 43 = _ := (hfg 43 13 (by kernel_rfl)).trans (hT 13 _ (by kernel_rfl) rfl)
        exact hQ1 f w9 ⟨by rw [h43, decide_eq_true hg, Bool.true_and], (Below.refl wr.heap.size wr).drew.trans hB⟩
      · skip
        refine Flow.wp_region_flow (wr.heap.size) [] [] (by kernel_rfl) (by kernel_rfl) (Nat.le_refl _) (fun _ h => by cases h) Flow.facts_nil ?_
        refine Flow.pass_old (X := .int .i64 ((x : Int))) 10 (Flow.met_none rfl) (.inl rfl) (by kernel_rfl) (by kernel_rfl) rfl ?_
        refine Flow.pass_old (X := .int .i64 ((jj : Int))) 11 (Flow.met_none rfl) (.inl rfl) (by kernel_rfl) (by kernel_rfl) rfl ?_
        refine Flow.pass_val (.bool false) (Flow.met_none rfl) (fun a W hH => ?_) ?_
        · have e0 := Flow.see_new 30 0 hH.sees (by kernel_rfl) (by kernel_rfl) rfl rfl
          have e1 := Flow.see_new 31 1 hH.sees (by kernel_rfl) (by kernel_rfl) rfl rfl
          go_simp; first | done | rfl | omega | (simp; done) | (simp; omega) | exact decide_eq_true (by omega) | exact decide_eq_false (by omega)
        refine Flow.pass_copy 32 2 (Flow.met_none rfl) (.inl rfl) (by kernel_rfl) (by kernel_rfl) rfl rfl (fun _ _ => Flow.kept_eqs _ _) ?_
        refine Flow.pass_skip (fun a W hH => Flow.not_wanted 3 true 33 hH rfl rfl (by kernel_rfl) (by kernel_rfl) rfl rfl) ?_
        refine Flow.pass_skip (fun a W hH => Flow.not_wanted 3 true 33 hH rfl rfl (by kernel_rfl) (by kernel_rfl) rfl rfl) ?_
        refine Flow.pass_skip (fun a W hH => Flow.not_wanted 3 true 33 hH rfl rfl (by kernel_rfl) (by kernel_rfl) rfl rfl) ?_
        refine Flow.pass_skip (fun a W hH => Flow.not_wanted 3 true 33 hH rfl rfl (by kernel_rfl) (by kernel_rfl) rfl rfl) ?_
        refine Flow.pass_skip (fun a W hH => Flow.not_wanted 3 true 33 hH rfl rfl (by kernel_rfl) (by kernel_rfl) rfl rfl) ?_
        refine Flow.pass_skip (fun a W hH => Flow.not_wanted 3 true 33 hH rfl rfl (by kernel_rfl) (by kernel_rfl) rfl rfl) ?_
        refine Flow.pass_skip (fun a W hH => Flow.not_wanted 3 true 33 hH rfl rfl (by kernel_rfl) (by kernel_rfl) rfl rfl) ?_
        refine Flow.pass_skip (fun a W hH => Flow.not_wanted 3 true 33 hH rfl rfl (by kernel_rfl) (by kernel_rfl) rfl rfl) ?_
        refine Flow.pass_skip (fun a W hH => Flow.not_wanted 3 true 33 hH rfl rfl (by kernel_rfl) (by kernel_rfl) rfl rfl) ?_
        refine Flow.pass_val (.bool false) (Flow.met_none rfl) (fun a W hH => ?_) ?_
        · have e0 := Flow.see_new 33 3 hH.sees (by kernel_rfl) (by kernel_rfl) rfl rfl
          have e1 := Flow.see_new 42 12 hH.sees (by kernel_rfl) (by kernel_rfl) rfl rfl
          go_simp; first | done | rfl
        refine Flow.pass_end [none, none, none, none, none, none, none, none, none, none, none, none, none, none, none, none, none, none, none, none, none, none, none, none, none, none, none, none, none, none, some 30, some 31, some 32, some 33, some 34, some 35, some 36, some 37, some 38, some 39, some 40, some 41, some 42, some 43, none, none, none, none, none, none, none, none, none, none, none, none, none, none, none, none, none, none, none, none, none, none, none, none, none, none, none, none, none, none, none, none, none, none, none, none, none, none, none, none, none, none, none, none, none, none, none, none, none, none, none, none, none, none, none, none, none, none, none, none, none, none, none, none, none, none, none, none, none, none, none, none, none, none, none, none, none, none, none, none, none, none, none, none, none, none, none, none, none, none, none, none, none, none, none, none, none, none, none, none, none, none, none, none, none, none, none, none, none, none, none, none, none, none, none, none, none, none, none, none, none, none, none, none] (by kernel_rfl) ?_
        intro f gg w9 hB hfa hT hfg
        have h43 : f 43 = _ := (hfg 43 13 (by kernel_rfl)).trans (hT 13 _ (by kernel_rfl) rfl)
        exact hQ1 f w9 ⟨by rw [h43, decide_eq_false hg, Bool.false_and], (Below.refl wr.heap.size wr).drew.trans hB⟩
    intro f Wu ⟨h43, hBWu⟩
    simp only [Reg.sel, h43]
    have hN_Wu := Blk.below hN_wr hBWu (Blk.lt hN_wr)
    have hC_Wu := hC_wr.trans (Chg.of_ext hBWu)
    clear h43 hBWu
    cases hq : (decide (x ≤ jj) && ltN d1[x]! d1[lo]!) with
    | true =>
      have hst := Lib.hid (scanUp_step (p := fun x => ltN x d1[lo]!) hq)
      have hxy : x ≤ jj := by simp only [Bool.and_eq_true, decide_eq_true_eq] at hq; exact hq.1
      clear hq
      go_wp2
      go_roundw
      case rel => first | exact ⟨x + 1, by omega, by omega, by go_num, Lib.hid (by rw [← hst.out]; exact hS.out), hN_Wu, hC_Wu⟩ | ((repeat apply Exists.intro); refine ⟨?_, rfl⟩; exact ⟨x + 1, by omega, by omega, by go_num, Lib.hid (by rw [← hst.out]; exact hS.out), hN_Wu, hC_Wu⟩)
      case measure => first | (simp [intOf]; done) | (simp [intOf]; omega) | (simp only [intOf]; omega)
    | false =>
      have hxe : IU = x := by rw [← hS.out]; exact scanUp_stop (p := fun x => ltN x d1[lo]!) hq
      have HXE := Lib.hid hxe
      have hIUx : Hid (Sort.scanUp (fun x => ltN x d1[lo]!) d1 jj (lo + 1) = x) := Lib.hid (by rw [hIU.out, hxe])
      clear hq hS hxe hIU HXE
      obtain ⟨JU, hJU⟩ : ∃ u, Sort.scanDown (fun x => !ltN x d1[lo]!) d1 x jj = u := ⟨_, rfl⟩
      have hJU := Lib.hid hJU
      go_wp2
      go_loopw [11] (fun j wr => ∃ y : Nat, y ≤ jj ∧ j = .int .i64 (y : Int) ∧ Hid (Sort.scanDown (fun x => !ltN x d1[lo]!) d1 x y = JU) ∧ NR wr g d1 R ∧ Chg (OnlyG g) w wr) (fun j _ => (intOf j).toNat)
      case atStart => exact ⟨jj, Nat.le_refl _, by first | rfl | go_num, hJU, hN_Wu, hC_Wu⟩
      case round =>
        obtain ⟨y, hy1, rfl, hS, hN_wr, hC_wr⟩ := hrel
        go_upto_region 5 with (fail)
        refine s_cut [none, none, none, none, none, none, none, none, none, none, none, none, none, none, none, none, none, none, none, none, none, none, none, none, none, none, none, none, none, none, none, none, none, none, none, none, none, none, none, none, none, none, none, none, none, none, some 46, some 47, some 48, some 49, some 50, some 51, some 52, some 53, some 54, some 55, some 56, some 57, some 58, some 59, some 60, none, none, none, none, none, none, none, none, none, none, none, none, none, none, none, none, none, none, none, none, none, none, none, none, none, none, none, none, none, none, none, none, none, none, none, none, none, none, none, none, none, none, none, none, none, none, none, none, none, none, none, none, none, none, none, none, none, none, none, none, none, none, none, none, none, none, none, none, none, none, none, none, none, none, none, none, none, none, none, none, none, none, none, none, none, none, none, none, none, none, none, none, none, none, none, none, none, none, none, none, none, none, none, none, none, none, none] (fun f W => f 60 = .bool (decide (x ≤ y) && !ltN d1[y]! d1[lo]!) ∧ Below wr.heap.size wr W) (fun Q1 hQ1 => ?_) ?_
        · by_cases hg : x ≤ y
          · skip
            refine Flow.wp_region_flow (wr.heap.size) [] [] (by kernel_rfl) (by kernel_rfl) (Nat.le_refl _) (fun _ h => by cases h) Flow.facts_nil ?_
            refine Flow.pass_old (X := .int .i64 ((x : Int))) 10 (Flow.met_none rfl) (.inl rfl) (by kernel_rfl) (by kernel_rfl) rfl ?_
            refine Flow.pass_old (X := .int .i64 ((y : Int))) 11 (Flow.met_none rfl) (.inl rfl) (by kernel_rfl) (by kernel_rfl) rfl ?_
            refine Flow.pass_val (.bool true) (Flow.met_none rfl) (fun a W hH => ?_) ?_
            · have e0 := Flow.see_new 46 0 hH.sees (by kernel_rfl) (by kernel_rfl) rfl rfl
              have e1 := Flow.see_new 47 1 hH.sees (by kernel_rfl) (by kernel_rfl) rfl rfl
              go_simp; first | done | rfl | omega | (simp; done) | (simp; omega) | exact decide_eq_true (by omega) | exact decide_eq_false (by omega)
            refine Flow.pass_copy 48 2 (Flow.met_none rfl) (.inl rfl) (by kernel_rfl) (by kernel_rfl) rfl rfl (fun _ _ => Flow.kept_eqs _ _) ?_
            refine Flow.pass_old (X := .slice (some ⟨g, 0, none⟩) n cap) 0 (Flow.met_some 3 true 49 rfl rfl (by kernel_rfl) (by kernel_rfl) rfl rfl) (.inl rfl) (by kernel_rfl) (by kernel_rfl) rfl ?_
            refine Flow.pass_old (X := .int .i64 ((y : Int))) 11 (Flow.met_some 3 true 49 rfl rfl (by kernel_rfl) (by kernel_rfl) rfl rfl) (.inl rfl) (by kernel_rfl) (by kernel_rfl) rfl ?_
            refine Flow.pass_val (.pointer (some ⟨g, y, none⟩)) (Flow.met_some 3 true 49 rfl rfl (by kernel_rfl) (by kernel_rfl) rfl rfl) (fun a W hH => ?_) ?_
            · have e0 := Flow.see_new 50 4 hH.sees (by kernel_rfl) (by kernel_rfl) rfl rfl
              have e1 := Flow.see_new 51 5 hH.sees (by kernel_rfl) (by kernel_rfl) rfl rfl
              exact s_ixS (s := 1) (y) _ rfl Tryz.underlying74 (by kernel_rfl) (by first | exact e0 | simpa [Act.eval] using e0 | (simp [Act.eval])) (by first | exact e1 | simpa [Act.eval] using e1 | (simp [Act.eval])) (by omega) (by omega) (by omega)
            refine Flow.pass_val (.int .u64 ((d1[y]! : Nat) : Int)) (Flow.met_some 3 true 49 rfl rfl (by kernel_rfl) (by kernel_rfl) rfl rfl) (fun a W hH => ?_) ?_
            · have e0 := Flow.see_new 52 6 hH.sees (by kernel_rfl) (by kernel_rfl) rfl rfl
              have cc := nr_cell (hN_wr.below ((Below.refl wr.heap.size wr).drew.trans hH.below) hN_wr.lt) (y) (by omega); go_simp; first | done | rfl
            refine Flow.pass_old (X := .slice (some ⟨g, 0, none⟩) n cap) 0 (Flow.met_some 3 true 49 rfl rfl (by kernel_rfl) (by kernel_rfl) rfl rfl) (.inl rfl) (by kernel_rfl) (by kernel_rfl) rfl ?_
            refine Flow.pass_old (X := .int .i64 ((lo : Int))) 1 (Flow.met_some 3 true 49 rfl rfl (by kernel_rfl) (by kernel_rfl) rfl rfl) (.inl rfl) (by kernel_rfl) (by kernel_rfl) rfl ?_
            refine Flow.pass_val (.pointer (some ⟨g, lo, none⟩)) (Flow.met_some 3 true 49 rfl rfl (by kernel_rfl) (by kernel_rfl) rfl rfl) (fun a W hH => ?_) ?_
            · have e0 := Flow.see_new 54 8 hH.sees (by kernel_rfl) (by kernel_rfl) rfl rfl
              have e1 := Flow.see_new 55 9 hH.sees (by kernel_rfl) (by kernel_rfl) rfl rfl
              exact s_ixS (s := 1) (lo) _ rfl Tryz.underlying74 (by kernel_rfl) (by first | exact e0 | simpa [Act.eval] using e0 | (simp [Act.eval])) (by first | exact e1 | simpa [Act.eval] using e1 | (simp [Act.eval])) (by omega) (by omega) (by omega)
            refine Flow.pass_val (.int .u64 ((d1[lo]! : Nat) : Int)) (Flow.met_some 3 true 49 rfl rfl (by kernel_rfl) (by kernel_rfl) rfl rfl) (fun a W hH => ?_) ?_
            · have e0 := Flow.see_new 56 10 hH.sees (by kernel_rfl) (by kernel_rfl) rfl rfl
              have cc := nr_cell (hN_wr.below ((Below.refl wr.heap.size wr).drew.trans hH.below) hN_wr.lt) (lo) (by omega); go_simp; first | done | rfl
            refine Flow.pass_step (Reg.eqs (.bool (ltN (d1[y]!) (d1[lo]!)))) (fun _ _ => Flow.kept_eqs _ _) (Flow.met_some 3 true 49 rfl rfl (by kernel_rfl) (by kernel_rfl) rfl rfl) (fun a W hH => ?_) ?_
            · have e0 := Flow.see_new 53 7 hH.sees (by kernel_rfl) (by kernel_rfl) rfl rfl
              have e1 := Flow.see_new 57 11 hH.sees (by kernel_rfl) (by kernel_rfl) rfl rfl
              refine Reg.wp_call rfl Tryz.func162 rfl (by kernel_rfl) (by simp [Act.eval, e0, e1]) (lessN (d1[y]!) (d1[lo]!) W) ?_
              rintro e w' ⟨rfl, rfl⟩
              exact ⟨_, rfl, _, rfl, Ext.refl _, rfl⟩
            refine Flow.pass_val (.bool (!(ltN (d1[y]!) (d1[lo]!)))) (Flow.met_some 3 true 49 rfl rfl (by kernel_rfl) (by kernel_rfl) rfl rfl) (fun a W hH => ?_) ?_
            · have e0 := Flow.see_new 58 12 hH.sees (by kernel_rfl) (by kernel_rfl) rfl rfl
              go_simp; first | done | rfl
            refine Flow.pass_val (.bool (!(ltN (d1[y]!) (d1[lo]!)))) (Flow.met_none rfl) (fun a W hH => ?_) ?_
            · have e0 := Flow.see_new 49 3 hH.sees (by kernel_rfl) (by kernel_rfl) rfl rfl
              have e1 := Flow.see_new 59 13 hH.sees (by kernel_rfl) (by kernel_rfl) rfl rfl
              go_simp; first | done | rfl
            refine Flow.pass_end [none, none, none, none, none, none, none, none, none, none, none, none, none, none, none, none, none, none, none, none, none, none, none, none, none, none, none, none, none, none, none, none, none, none, none, none, none, none, none, none, none, none, none, none, none, none, some 46, some 47, some 48, some 49, some 50, some 51, some 52, some 53, some 54, some 55, some 56, some 57, some 58, some 59, some 60, none, none, none, none, none, none, none, none, none, none, none, none, none, none, none, none, none, none, none, none, none, none, none, none, none, none, none, none, none, none, none, none, none, none, none, none, none, none, none, none, none, none, none, none, none, none, none, none, none, none, none, none, none, none, none, none, none, none, none, none, none, none, none, none, none, none, none, none, none, none, none, none, none, none, none, none, none, none, none, none, none, none, none, none, none, none, none, none, none, none, none, none, none, none, none, none, none, none, none, none, none, none, none, none, none, none, none] (by kernel_rfl) ?_
            intro f gg w9 hB hfa hT hfg
            have h60 : f 60 = _ := (hfg 60 14 (by kernel_rfl)).trans (hT 14 _ (by kernel_rfl) rfl)
            exact hQ1 f w9 ⟨by rw [h60, decide_eq_true hg, Bool.true_and], (Below.refl wr.heap.size wr).drew.trans hB⟩
          · skip
            refine Flow.wp_region_flow (wr.heap.size) [] [] (by kernel_rfl) (by kernel_rfl) (Nat.le_refl _) (fun _ h => by cases h) Flow.facts_nil ?_
            refine Flow.pass_old (X := .int .i64 ((x : Int))) 10 (Flow.met_none rfl) (.inl rfl) (by kernel_rfl) (by kernel_rfl) rfl ?_
            refine Flow.pass_old (X := .int .i64 ((y : Int))) 11 (Flow.met_none rfl) (.inl rfl) (by kernel_rfl) (by kernel_rfl) rfl ?_
            refine Flow.pass_val (.bool false) (Flow.met_none rfl) (fun a W hH => ?_) ?_
            · have e0 := Flow.see_new 46 0 hH.sees (by kernel_rfl) (by kernel_rfl) rfl rfl
              have e1 := Flow.see_new 47 1 hH.sees (by kernel_rfl) (by kernel_rfl) rfl rfl
              go_simp; first | done | rfl | omega | (simp; done) | (simp; omega) | exact decide_eq_true (by omega) | exact decide_eq_false (by omega)
            refine Flow.pass_copy 48 2 (Flow.met_none rfl) (.inl rfl) (by kernel_rfl) (by kernel_rfl) rfl rfl (fun _ _ => Flow.kept_eqs _ _) ?_
            refine Flow.pass_skip (fun a W hH => Flow.not_wanted 3 true 49 hH rfl rfl (by kernel_rfl) (by kernel_rfl) rfl rfl) ?_
            refine Flow.pass_skip (fun a W hH => Flow.not_wanted 3 true 49 hH rfl rfl (by kernel_rfl) (by kernel_rfl) rfl rfl) ?_
            refine Flow.pass_skip (fun a W hH => Flow.not_wanted 3 true 49 hH rfl rfl (by kernel_rfl) (by kernel_rfl) rfl rfl) ?_
            refine Flow.pass_skip (fun a W hH => Flow.not_wanted 3 true 49 hH rfl rfl (by kernel_rfl) (by kernel_rfl) rfl rfl) ?_
            refine Flow.pass_skip (fun a W hH => Flow.not_wanted 3 true 49 hH rfl rfl (by kernel_rfl) (by kernel_rfl) rfl rfl) ?_
            refine Flow.pass_skip (fun a W hH => Flow.not_wanted 3 true 49 hH rfl rfl (by kernel_rfl) (by kernel_rfl) rfl rfl) ?_
            refine Flow.pass_skip (fun a W hH => Flow.not_wanted 3 true 49 hH rfl rfl (by kernel_rfl) (by kernel_rfl) rfl rfl) ?_
            refine Flow.pass_skip (fun a W hH => Flow.not_wanted 3 true 49 hH rfl rfl (by kernel_rfl) (by kernel_rfl) rfl rfl) ?_
            refine Flow.pass_skip (fun a W hH => Flow.not_wanted 3 true 49 hH rfl rfl (by kernel_rfl) (by kernel_rfl) rfl rfl) ?_
            refine Flow.pass_skip (fun a W hH => Flow.not_wanted 3 true 49 hH rfl rfl (by kernel_rfl) (by kernel_rfl) rfl rfl) ?_
            refine Flow.pass_val (.bool false) (Flow.met_none rfl) (fun a W hH => ?_) ?_
            · have e0 := Flow.see_new 49 3 hH.sees (by kernel_rfl) (by kernel_rfl) rfl rfl
              have e1 := Flow.see_new 59 13 hH.sees (by kernel_rfl) (by kernel_rfl) rfl rfl
              go_simp; first | done | rfl
            refine Flow.pass_end [none, none, none, none, none, none, none, none, none, none, none, none, none, none, none, none, none, none, none, none, none, none, none, none, none, none, none, none, none, none, none, none, none, none, none, none, none, none, none, none, none, none, none, none, none, none, some 46, some 47, some 48, some 49, some 50, some 51, some 52, some 53, some 54, some 55, some 56, some 57, some 58, some 59, some 60, none, none, none, none, none, none, none, none, none, none, none, none, none, none, none, none, none, none, none, none, none, none, none, none, none, none, none, none, none, none, none, none, none, none, none, none, none, none, none, none, none, none, none, none, none, none, none, none, none, none, none, none, none, none, none, none, none, none, none, none, none, none, none, none, none, none, none, none, none, none, none, none, none, none, none, none, none, none, none, none, none, none, none, none, none, none, none, none, none, none, none, none, none, none, none, none, none, none, none, none, none, none, none, none, none, none, none] (by kernel_rfl) ?_
            intro f gg w9 hB hfa hT hfg
            have h60 : f 60 = _ := (hfg 60 14 (by kernel_rfl)).trans (hT 14 _ (by kernel_rfl) rfl)
            exact hQ1 f w9 ⟨by rw [h60, decide_eq_false hg, Bool.false_and], (Below.refl wr.heap.size wr).drew.trans hB⟩
        intro f Wd ⟨h60, hBWd⟩
        simp only [Reg.sel, h60]
        have hN_Wd := Blk.below hN_wr hBWd (Blk.lt hN_wr)
        have hC_Wd := hC_wr.trans (Chg.of_ext hBWd)
        clear h60 hBWd
        cases hq : (decide (x ≤ y) && !ltN d1[y]! d1[lo]!) with
        | true =>
          have hxy : x ≤ y := by simp only [Bool.and_eq_true, decide_eq_true_eq] at hq; exact hq.1
          have hst := Lib.hid (scanDown_step (p := fun x => !ltN x d1[lo]!) (by omega) hq)
          clear hq
          go_wp2
          go_roundw
          case rel => first | exact ⟨y - 1, by omega, by go_num, Lib.hid (by rw [← hst.out]; exact hS.out), hN_Wd, hC_Wd⟩ | ((repeat apply Exists.intro); refine ⟨?_, rfl⟩; exact ⟨y - 1, by omega, by go_num, Lib.hid (by rw [← hst.out]; exact hS.out), hN_Wd, hC_Wd⟩)
          case measure => first | (simp [intOf]; done) | (simp [intOf]; omega) | (simp only [intOf]; omega)
        | false =>
          have hye : JU = y := by rw [← hS.out]; exact scanDown_stop (p := fun x => !ltN x d1[lo]!) hq
          have hJUy : Hid (Sort.scanDown (fun x => !ltN x d1[lo]!) d1 x jj = y) := Lib.hid (by rw [hJU.out, hye])
          clear hq hS hye hJU
          by_cases hc : y < x
          · have hci : (y : Int) < (x : Int) := by omega
            have hre : Hid (RES = (y, true, Sort.swp d1 y lo)) := Lib.hid (by
              have := HRES.out
              rw [hIUx.out, hJUy.out, if_pos hc] at this
              exact this)
            go_wp2
            go_upto_region 8 with (fail)
            refine Flow.wp_region_flow (g) [(13, fun b => b = g), (15, fun b => b = g)] [(7, fun W => NR W g d1 R), (11, fun W => NR W g d1 R), (13, fun W => NR W g d1 R), (16, fun W => Chg (OnlyG g) Wd W)] (by kernel_rfl) (by kernel_rfl) (Nat.le_of_lt hN_Wd.lt) (Flow.nz_cons (by rintro b rfl; exact Nat.le_refl _) (Flow.nz_cons (by rintro b rfl; exact Nat.le_refl _) Flow.nz_nil)) (Flow.facts_cons (hN_Wd.drew) (Flow.kept_blk id) (Flow.fz_cons (Flow.no_follow (by kernel_rfl)) (Flow.fz_cons (Flow.no_follow (by kernel_rfl)) Flow.fz_nil)) (Flow.facts_cons (hN_Wd.drew) (Flow.kept_blk id) (Flow.fz_cons (Flow.no_follow (by kernel_rfl)) (Flow.fz_cons (Flow.no_follow (by kernel_rfl)) Flow.fz_nil)) (Flow.facts_cons (hN_Wd.drew) (Flow.kept_blk id) (Flow.fz_cons (Flow.no_follow (by kernel_rfl)) (Flow.fz_cons (Flow.no_follow (by kernel_rfl)) Flow.fz_nil)) (Flow.facts_cons ((Chg.refl _ _).drew) (fun _ _ c h => onlyg_trans h c (by first | exact fun _ hj => hj | exact fun _ hj => hj.elim)) (Flow.fz_cons (fun _ => fun _ _ c h => onlyg_trans h c (by first | exact fun _ hj => hj | exact fun _ hj => hj.elim)) (Flow.fz_cons (fun _ => fun _ _ c h => onlyg_trans h c (by first | exact fun _ hj => hj | exact fun _ hj => hj.elim)) Flow.fz_nil)) Flow.facts_nil)))) ?_
            refine Flow.pass_old (X := .slice (some ⟨g, 0, none⟩) n cap) 0 (Flow.met_none rfl) (.inl rfl) (by kernel_rfl) (by kernel_rfl) rfl ?_
            refine Flow.pass_old (X := .int .i64 ((y : Int))) 11 (Flow.met_none rfl) (.inl rfl) (by kernel_rfl) (by kernel_rfl) rfl ?_
            refine Flow.pass_old (X := .slice (some ⟨g, 0, none⟩) n cap) 0 (Flow.met_none rfl) (.inl rfl) (by kernel_rfl) (by kernel_rfl) rfl ?_
            refine Flow.pass_old (X := .int .i64 ((lo : Int))) 1 (Flow.met_none rfl) (.inl rfl) (by kernel_rfl) (by kernel_rfl) rfl ?_
            refine Flow.pass_old (X := .slice (some ⟨g, 0, none⟩) n cap) 0 (Flow.met_none rfl) (.inl rfl) (by kernel_rfl) (by kernel_rfl) rfl ?_
            refine Flow.pass_old (X := .int .i64 ((lo : Int))) 1 (Flow.met_none rfl) (.inl rfl) (by kernel_rfl) (by kernel_rfl) rfl ?_
            refine Flow.pass_val (.pointer (some ⟨g, lo, none⟩)) (Flow.met_none rfl) (fun a W hH => ?_) ?_
            · have e0 := Flow.see_new 70 4 hH.sees (by kernel_rfl) (by kernel_rfl) rfl rfl
              have e1 := Flow.see_new 71 5 hH.sees (by kernel_rfl) (by kernel_rfl) rfl rfl
              exact s_ixS (s := 1) (lo) _ rfl Tryz.underlying74 (by kernel_rfl) (by first | exact e0 | simpa [Act.eval] using e0 | (simp [Act.eval])) (by first | exact e1 | simpa [Act.eval] using e1 | (simp [Act.eval])) (by omega) (by omega) (by omega)
            refine Flow.pass_val (.int .u64 ((d1[lo]! : Nat) : Int)) (Flow.met_none rfl) (fun a W hH => ?_) ?_
            · have e0 := Flow.see_new 72 6 hH.sees (by kernel_rfl) (by kernel_rfl) rfl rfl
              have fa0 : (fun W => NR W g d1 R) W := hH.fact _ (List.mem_of_getElem? (i := 0) rfl) rfl
              have cc := nr_cell fa0 (lo) (by omega); go_simp; first | done | rfl
            refine Flow.pass_old (X := .slice (some ⟨g, 0, none⟩) n cap) 0 (Flow.met_none rfl) (.inl rfl) (by kernel_rfl) (by kernel_rfl) rfl ?_
            refine Flow.pass_old (X := .int .i64 ((y : Int))) 11 (Flow.met_none rfl) (.inl rfl) (by kernel_rfl) (by kernel_rfl) rfl ?_
            refine Flow.pass_val (.pointer (some ⟨g, y, none⟩)) (Flow.met_none rfl) (fun a W hH => ?_) ?_
            · have e0 := Flow.see_new 74 8 hH.sees (by kernel_rfl) (by kernel_rfl) rfl rfl
              have e1 := Flow.see_new 75 9 hH.sees (by kernel_rfl) (by kernel_rfl) rfl rfl
              exact s_ixS (s := 1) (y) _ rfl Tryz.underlying74 (by kernel_rfl) (by first | exact e0 | simpa [Act.eval] using e0 | (simp [Act.eval])) (by first | exact e1 | simpa [Act.eval] using e1 | (simp [Act.eval])) (by omega) (by omega) (by omega)
            refine Flow.pass_val (.int .u64 ((d1[y]! : Nat) : Int)) (Flow.met_none rfl) (fun a W hH => ?_) ?_
            · have e0 := Flow.see_new 76 10 hH.sees (by kernel_rfl) (by kernel_rfl) rfl rfl
              have fa1 : (fun W => NR W g d1 R) W := hH.fact _ (List.mem_of_getElem? (i := 1) rfl) rfl
              have cc := nr_cell fa1 (y) (by omega); go_simp; first | done | rfl
            refine Flow.pass_val (.pointer (some ⟨g, y, none⟩)) (Flow.met_none rfl) (fun a W hH => ?_) ?_
            · have e0 := Flow.see_new 66 0 hH.sees (by kernel_rfl) (by kernel_rfl) rfl rfl
              have e1 := Flow.see_new 67 1 hH.sees (by kernel_rfl) (by kernel_rfl) rfl rfl
              exact s_ixS (s := 1) (y) _ rfl Tryz.underlying74 (by kernel_rfl) (by first | exact e0 | simpa [Act.eval] using e0 | (simp [Act.eval])) (by first | exact e1 | simpa [Act.eval] using e1 | (simp [Act.eval])) (by omega) (by omega) (by omega)
            refine Flow.pass_lin [15] (fun _ W => NR W g (d1.setIfInBounds (y) (d1[lo]!)) R) (Flow.kept_lin [15] (fun _ _ _ c h => h.chg c id) (Flow.lz_cons (Flow.no_follow (by kernel_rfl)) (Flow.lz_cons (fun _ => .inl rfl) Flow.lz_nil))) (Flow.met_none rfl) (fun a W hH => ?_) ?_
            · have e0 := Flow.see_new 78 12 hH.sees (by kernel_rfl) (by kernel_rfl) rfl rfl
              have e1 := Flow.see_new 73 7 hH.sees (by kernel_rfl) (by kernel_rfl) rfl rfl
              have fa2 : (fun W => NR W g d1 R) W := hH.fact _ (List.mem_of_getElem? (i := 2) rfl) rfl
              refine s_skip (s_store rfl (by kernel_rfl) fa2 e0 e1 (nr_size (by omega))) ?_
              exact ⟨_, rfl, Chg.grown (s_grown _ _ _ _) (by rintro j h; cases h; rfl), nr_set fa2 _ (by omega) _⟩
            refine Flow.pass_val (.pointer (some ⟨g, lo, none⟩)) (Flow.met_none rfl) (fun a W hH => ?_) ?_
            · have e0 := Flow.see_new 68 2 hH.sees (by kernel_rfl) (by kernel_rfl) rfl rfl
              have e1 := Flow.see_new 69 3 hH.sees (by kernel_rfl) (by kernel_rfl) rfl rfl
              exact s_ixS (s := 1) (lo) _ rfl Tryz.underlying74 (by kernel_rfl) (by first | exact e0 | simpa [Act.eval] using e0 | (simp [Act.eval])) (by first | exact e1 | simpa [Act.eval] using e1 | (simp [Act.eval])) (by omega) (by omega) (by omega)
            refine Flow.pass_gen (fun _ W => NR W g ((d1.setIfInBounds (y) (d1[lo]!)).setIfInBounds (lo) (d1[y]!)) R) (Flow.kept_of (fun _ _ _ c h => h.chg c id) (Flow.kz_cons (Flow.no_follow (by kernel_rfl)) (Flow.kz_cons (Flow.no_follow (by kernel_rfl)) Flow.kz_nil))) (Flow.met_none rfl) (fun a W hH => ?_) ?_
            · have e0 := Flow.see_new 79 14 hH.sees (by kernel_rfl) (by kernel_rfl) rfl rfl
              have e1 := Flow.see_new 77 11 hH.sees (by kernel_rfl) (by kernel_rfl) rfl rfl
              obtain ⟨_, hP⟩ := Flow.past_lin 13 hH.past (by kernel_rfl) (by kernel_rfl) rfl (by kernel_rfl)
              refine s_skip (s_store rfl (by kernel_rfl) hP e0 e1 (nr_size (by rw [Array.size_setIfInBounds]; omega))) ?_
              exact ⟨_, rfl, Chg.grown (s_grown _ _ _ _) (by rintro j h; cases h; rfl), nr_set hP _ (by rw [Array.size_setIfInBounds]; omega) _⟩
            refine Flow.pass_end [none, none, none, none, none, none, none, none, none, none, none, none, none, none, none, none, none, none, none, none, none, none, none, none, none, none, none, none, none, none, none, none, none, none, none, none, none, none, none, none, none, none, none, none, none, none, none, none, none, none, none, none, none, none, none, none, none, none, none, none, none, none, none, none, none, none, some 66, some 67, some 68, some 69, some 70, some 71, some 72, some 73, some 74, some 75, some 76, some 77, some 78, some 79, none, none, none, none, none, none, none, none, none, none, none, none, none, none, none, none, none, none, none, none, none, none, none, none, none, none, none, none, none, none, none, none, none, none, none, none, none, none, none, none, none, none, none, none, none, none, none, none, none, none, none, none, none, none, none, none, none, none, none, none, none, none, none, none, none, none, none, none, none, none, none, none, none, none, none, none, none, none, none, none, none, none, none, none, none, none, none, none] (by kernel_rfl) ?_
            intro f gg w9 hB hfa hT hfg
            have F3 : (fun W => Chg (OnlyG g) Wd W) w9 := hfa _ (List.mem_of_getElem? (i := 3) rfl) (Nat.le_refl _)
            have hN_W6 : NR w9 g (Sort.swp d1 (y) (lo)) R := hT 15 _ (by kernel_rfl) rfl
            have hC_W6 := hC_Wd.trans F3
            simp only [Reg.sel]
            obtain ⟨W6, hWW6⟩ : ∃ W, W = w9 := ⟨_, rfl⟩
            subst hWW6
            clear hT hfg hfa hB F3
            go_wp2
            go_ret2
            refine ⟨?_, ?_, hC_W6⟩
            · rw [hre.out]; rfl
            · rw [hre.out]; exact hN_W6
          · have hci : ¬ (y : Int) < (x : Int) := by omega
            obtain ⟨PL, hPL0⟩ : ∃ r, Sort.partLoop ltN lo (x + 1) (y - 1) (Sort.swp d1 x y) = r := ⟨_, rfl⟩
            have hre : Hid (RES = (PL.1, false, Sort.swp PL.2 PL.1 lo)) := Lib.hid (by
              have := HRES.out
              rw [hIUx.out, hJUy.out, if_neg hc] at this
              rw [← hPL0]
              exact this)
            have HPL := Lib.hid hPL0
            have HRES := hre
            clear hPL0 hre
            go_wp2
            go_upto_region 10 with (fail)
            refine Flow.wp_region_flow (g) [(13, fun b => b = g), (15, fun b => b = g)] [(7, fun W => NR W g d1 R), (11, fun W => NR W g d1 R), (13, fun W => NR W g d1 R), (16, fun W => Chg (OnlyG g) Wd W)] (by kernel_rfl) (by kernel_rfl) (Nat.le_of_lt hN_Wd.lt) (Flow.nz_cons (by rintro b rfl; exact Nat.le_refl _) (Flow.nz_cons (by rintro b rfl; exact Nat.le_refl _) Flow.nz_nil)) (Flow.facts_cons (hN_Wd.drew) (Flow.kept_blk id) (Flow.fz_cons (Flow.no_follow (by kernel_rfl)) (Flow.fz_cons (Flow.no_follow (by kernel_rfl)) Flow.fz_nil)) (Flow.facts_cons (hN_Wd.drew) (Flow.kept_blk id) (Flow.fz_cons (Flow.no_follow (by kernel_rfl)) (Flow.fz_cons (Flow.no_follow (by kernel_rfl)) Flow.fz_nil)) (Flow.facts_cons (hN_Wd.drew) (Flow.kept_blk id) (Flow.fz_cons (Flow.no_follow (by kernel_rfl)) (Flow.fz_cons (Flow.no_follow (by kernel_rfl)) Flow.fz_nil)) (Flow.facts_cons ((Chg.refl _ _).drew) (fun _ _ c h => onlyg_trans h c (by first | exact fun _ hj => hj | exact fun _ hj => hj.elim)) (Flow.fz_cons (fun _ => fun _ _ c h => onlyg_trans h c (by first | exact fun _ hj => hj | exact fun _ hj => hj.elim)) (Flow.fz_cons (fun _ => fun _ _ c h => onlyg_trans h c (by first | exact fun _ hj => hj | exact fun _ hj => hj.elim)) Flow.fz_nil)) Flow.facts_nil)))) ?_
            refine Flow.pass_old (X := .slice (some ⟨g, 0, none⟩) n cap) 0 (Flow.met_none rfl) (.inl rfl) (by kernel_rfl) (by kernel_rfl) rfl ?_
            refine Flow.pass_old (X := .int .i64 ((x : Int))) 10 (Flow.met_none rfl) (.inl rfl) (by kernel_rfl) (by kernel_rfl) rfl ?_
            refine Flow.pass_old (X := .slice (some ⟨g, 0, none⟩) n cap) 0 (Flow.met_none rfl) (.inl rfl) (by kernel_rfl) (by kernel_rfl) rfl ?_
            refine Flow.pass_old (X := .int .i64 ((y : Int))) 11 (Flow.met_none rfl) (.inl rfl) (by kernel_rfl) (by kernel_rfl) rfl ?_
            refine Flow.pass_old (X := .slice (some ⟨g, 0, none⟩) n cap) 0 (Flow.met_none rfl) (.inl rfl) (by kernel_rfl) (by kernel_rfl) rfl ?_
            refine Flow.pass_old (X := .int .i64 ((y : Int))) 11 (Flow.met_none rfl) (.inl rfl) (by kernel_rfl) (by kernel_rfl) rfl ?_
            refine Flow.pass_val (.pointer (some ⟨g, y, none⟩)) (Flow.met_none rfl) (fun a W hH => ?_) ?_
            · have e0 := Flow.see_new 85 4 hH.sees (by kernel_rfl) (by kernel_rfl) rfl rfl
              have e1 := Flow.see_new 86 5 hH.sees (by kernel_rfl) (by kernel_rfl) rfl rfl
              exact s_ixS (s := 1) (y) _ rfl Tryz.underlying74 (by kernel_rfl) (by first | exact e0 | simpa [Act.eval] using e0 | (simp [Act.eval])) (by first | exact e1 | simpa [Act.eval] using e1 | (simp [Act.eval])) (by omega) (by omega) (by omega)
            refine Flow.pass_val (.int .u64 ((d1[y]! : Nat) : Int)) (Flow.met_none rfl) (fun a W hH => ?_) ?_
            · have e0 := Flow.see_new 87 6 hH.sees (by kernel_rfl) (by kernel_rfl) rfl rfl
              have fa0 : (fun W => NR W g d1 R) W := hH.fact _ (List.mem_of_getElem? (i := 0) rfl) rfl
              have cc := nr_cell fa0 (y) (by omega); go_simp; first | done | rfl
            refine Flow.pass_old (X := .slice (some ⟨g, 0, none⟩) n cap) 0 (Flow.met_none rfl) (.inl rfl) (by kernel_rfl) (by kernel_rfl) rfl ?_
            refine Flow.pass_old (X := .int .i64 ((x : Int))) 10 (Flow.met_none rfl) (.inl rfl) (by kernel_rfl) (by kernel_rfl) rfl ?_
            refine Flow.pass_val (.pointer (some ⟨g, x, none⟩)) (Flow.met_none rfl) (fun a W hH => ?_) ?_
            · have e0 := Flow.see_new 89 8 hH.sees (by kernel_rfl) (by kernel_rfl) rfl rfl
              have e1 := Flow.see_new 90 9 hH.sees (by kernel_rfl) (by kernel_rfl) rfl rfl
              exact s_ixS (s := 1) (x) _ rfl Tryz.underlying74 (by kernel_rfl) (by first | exact e0 | simpa [Act.eval] using e0 | (simp [Act.eval])) (by first | exact e1 | simpa [Act.eval] using e1 | (simp [Act.eval])) (by omega) (by omega) (by omega)
            refine Flow.pass_val (.int .u64 ((d1[x]! : Nat) : Int)) (Flow.met_none rfl) (fun a W hH => ?_) ?_
            · have e0 := Flow.see_new 91 10 hH.sees (by kernel_rfl) (by kernel_rfl) rfl rfl
              have fa1 : (fun W => NR W g d1 R) W := hH.fact _ (List.mem_of_getElem? (i := 1) rfl) rfl
              have cc := nr_cell fa1 (x) (by omega); go_simp; first | done | rfl
            refine Flow.pass_val (.pointer (some ⟨g, x, none⟩)) (Flow.met_none rfl) (fun a W hH => ?_) ?_
            · have e0 := Flow.see_new 81 0 hH.sees (by kernel_rfl) (by kernel_rfl) rfl rfl
              have e1 := Flow.see_new 82 1 hH.sees (by kernel_rfl) (by kernel_rfl) rfl rfl
              exact s_ixS (s := 1) (x) _ rfl Tryz.underlying74 (by kernel_rfl) (by first | exact e0 | simpa [Act.eval] using e0 | (simp [Act.eval])) (by first | exact e1 | simpa [Act.eval] using e1 | (simp [Act.eval])) (by omega) (by omega) (by omega)
            refine Flow.pass_lin [15] (fun _ W => NR W g (d1.setIfInBounds (x) (d1[y]!)) R) (Flow.kept_lin [15] (fun _ _ _ c h => h.chg c id) (Flow.lz_cons (Flow.no_follow (by kernel_rfl)) (Flow.lz_cons (fun _ => .inl rfl) Flow.lz_nil))) (Flow.met_none rfl) (fun a W hH => ?_) ?_
            · have e0 := Flow.see_new 93 12 hH.sees (by kernel_rfl) (by kernel_rfl) rfl rfl
              have e1 := Flow.see_new 88 7 hH.sees (by kernel_rfl) (by kernel_rfl) rfl rfl
              have fa2 : (fun W => NR W g d1 R) W := hH.fact _ (List.mem_of_getElem? (i := 2) rfl) rfl
              refine s_skip (s_store rfl (by kernel_rfl) fa2 e0 e1 (nr_size (by omega))) ?_
              exact ⟨_, rfl, Chg.grown (s_grown _ _ _ _) (by rintro j h; cases h; rfl), nr_set fa2 _ (by omega) _⟩
            refine Flow.pass_val (.pointer (some ⟨g, y, none⟩)) (Flow.met_none rfl) (fun a W hH => ?_) ?_
            · have e0 := Flow.see_new 83 2 hH.sees (by kernel_rfl) (by kernel_rfl) rfl rfl
              have e1 := Flow.see_new 84 3 hH.sees (by kernel_rfl) (by kernel_rfl) rfl rfl
              exact s_ixS (s := 1) (y) _ rfl Tryz.underlying74 (by kernel_rfl) (by first | exact e0 | simpa [Act.eval] using e0 | (simp [Act.eval])) (by first | exact e1 | simpa [Act.eval] using e1 | (simp [Act.eval])) (by omega) (by omega) (by omega)
            refine Flow.pass_gen (fun _ W => NR W g ((d1.setIfInBounds (x) (d1[y]!)).setIfInBounds (y) (d1[x]!)) R) (Flow.kept_of (fun _ _ _ c h => h.chg c id) (Flow.kz_cons (Flow.no_follow (by kernel_rfl)) (Flow.kz_cons (Flow.no_follow (by kernel_rfl)) Flow.kz_nil))) (Flow.met_none rfl) (fun a W hH => ?_) ?_
            · have e0 := Flow.see_new 94 14 hH.sees (by kernel_rfl) (by kernel_rfl) rfl rfl
              have e1 := Flow.see_new 92 11 hH.sees (by kernel_rfl) (by kernel_rfl) rfl rfl
              obtain ⟨_, hP⟩ := Flow.past_lin 13 hH.past (by kernel_rfl) (by kernel_rfl) rfl (by kernel_rfl)
              refine s_skip (s_store rfl (by kernel_rfl) hP e0 e1 (nr_size (by rw [Array.size_setIfInBounds]; omega))) ?_
              exact ⟨_, rfl, Chg.grown (s_grown _ _ _ _) (by rintro j h; cases h; rfl), nr_set hP _ (by rw [Array.size_setIfInBounds]; omega) _⟩
            refine Flow.pass_end [none, none, none, none, none, none, none, none, none, none, none, none, none, none, none, none, none, none, none, none, none, none, none, none, none, none, none, none, none, none, none, none, none, none, none, none, none, none, none, none, none, none, none, none, none, none, none, none, none, none, none, none, none, none, none, none, none, none, none, none, none, none, none, none, none, none, none, none, none, none, none, none, none, none, none, none, none, none, none, none, none, some 81, some 82, some 83, some 84, some 85, some 86, some 87, some 88, some 89, some 90, some 91, some 92, some 93, some 94, none, none, none, none, none, none, none, none, none, none, none, none, none, none, none, none, none, none, none, none, none, none, none, none, none, none, none, none, none, none, none, none, none, none, none, none, none, none, none, none, none, none, none, none, none, none, none, none, none, none, none, none, none, none, none, none, none, none, none, none, none, none, none, none, none, none, none, none, none, none, none, none, none] (by kernel_rfl) ?_
            intro f gg w9 hB hfa hT hfg
            have F3 : (fun W => Chg (OnlyG g) Wd W) w9 := hfa _ (List.mem_of_getElem? (i := 3) rfl) (Nat.le_refl _)
            have hN_W6 : NR w9 g (Sort.swp d1 (x) (y)) R := hT 15 _ (by kernel_rfl) rfl
            have hC_W6 := hC_Wd.trans F3
            simp only [Reg.sel]
            obtain ⟨W6, hWW6⟩ : ∃ W, W = w9 := ⟨_, rfl⟩
            subst hWW6
            clear hT hfg hfa hB F3
            go_wp2
            go_loopw [10, 11] (fun i j wr => ∃ (x0 y0 : Nat) (d2 : Array Nat), lo + 1 ≤ x0 ∧ x0 ≤ hi ∧ y0 < hi ∧ i = .int .i64 (x0 : Int) ∧ j = .int .i64 (y0 : Int) ∧ Hid (Sort.partLoop ltN lo x0 y0 d2 = PL) ∧ d2.size = n ∧ NR wr g d2 R ∧ Chg (OnlyG g) w wr) (fun i j _ => (intOf j + 1 - intOf i).toNat)
            case atStart => exact ⟨x + 1, y - 1, _, by omega, by omega, by omega, by go_num, by go_num, HPL, by rw [swp_size]; exact hn1, hN_W6, hC_W6⟩
            case round =>
              clear hIUx hJUy
              obtain ⟨x0, y0, d2, hx0, hx0h, hy0, rfl, rfl, hPL, hn2, hN_wr, hC_wr⟩ := hrel
              obtain ⟨IU, hIU⟩ : ∃ u, Sort.scanUp (fun x => ltN x d2[lo]!) d2 y0 x0 = u := ⟨_, rfl⟩
              have hIU := Lib.hid hIU
              try go_wp2
              go_loopw [10] (fun i wr => ∃ x : Nat, x0 ≤ x ∧ x ≤ hi ∧ i = .int .i64 (x : Int) ∧ Hid (Sort.scanUp (fun x => ltN x d2[lo]!) d2 y0 x = IU) ∧ NR wr g d2 R ∧ Chg (OnlyG g) w wr) (fun i _ => hi + 1 - (intOf i).toNat)
              case atStart => exact ⟨x0, Nat.le_refl _, by omega, by first | rfl | go_num, hIU, hN_wr, hC_wr⟩
              case round =>
                obtain ⟨x, hx1, hx2, rfl, hS, hN_wr, hC_wr⟩ := hrel
                go_upto_region 13 with (fail)
                refine s_cut [none, none, none, none, none, none, none, none, none, none, none, none, none, none, none, none, none, none, none, none, none, none, none, none, none, none, none, none, none, none, none, none, none, none, none, none, none, none, none, none, none, none, none, none, none, none, none, none, none, none, none, none, none, none, none, none, none, none, none, none, none, none, none, none, none, none, none, none, none, none, none, none, none, none, none, none, none, none, none, none, none, none, none, none, none, none, none, none, none, none, none, none, none, none, none, none, none, none, none, some 99, some 100, some 101, some 102, some 103, some 104, some 105, some 106, some 107, some 108, some 109, some 110, some 111, some 112, none, none, none, none, none, none, none, none, none, none, none, none, none, none, none, none, none, none, none, none, none, none, none, none, none, none, none, none, none, none, none, none, none, none, none, none, none, none, none, none, none, none, none, none, none, none, none, none, none, none, none, none, none, none, none] (fun f W => f 112 = .bool (decide (x ≤ y0) && ltN d2[x]! d2[lo]!) ∧ Below wr.heap.size wr W) (fun Q1 hQ1 => ?_) ?_
                · by_cases hg : x ≤ y0
                  · skip
                    refine Flow.wp_region_flow (wr.heap.size) [] [] (by kernel_rfl) (by kernel_rfl) (Nat.le_refl _) (fun _ h => by cases h) Flow.facts_nil ?_
                    refine Flow.pass_old (X := .int .i64 ((x : Int))) 10 (Flow.met_none rfl) (.inl rfl) (by kernel_rfl) (by kernel_rfl) rfl ?_
                    refine Flow.pass_old (X := .int .i64 ((y0 : Int))) 11 (Flow.met_none rfl) (.inl rfl) (by kernel_rfl) (by kernel_rfl) rfl ?_
                    refine Flow.pass_val (.bool true) (Flow.met_none rfl) (fun a W hH => ?_) ?_
                    · have e0 := Flow.see_new 99 0 hH.sees (by kernel_rfl) (by kernel_rfl) rfl rfl
                      have e1 := Flow.see_new 100 1 hH.sees (by kernel_rfl) (by kernel_rfl) rfl rfl
                      go_simp; first | done | rfl | omega | (simp; done) | (simp; omega) | exact decide_eq_true (by omega) | exact decide_eq_false (by omega)
                    refine Flow.pass_copy 101 2 (Flow.met_none rfl) (.inl rfl) (by kernel_rfl) (by kernel_rfl) rfl rfl (fun _ _ => Flow.kept_eqs _ _) ?_
                    refine Flow.pass_old (X := .slice (some ⟨g, 0, none⟩) n cap) 0 (Flow.met_some 3 true 102 rfl rfl (by kernel_rfl) (by kernel_rfl) rfl rfl) (.inl rfl) (by kernel_rfl) (by kernel_rfl) rfl ?_
                    refine Flow.pass_old (X := .int .i64 ((x : Int))) 10 (Flow.met_some 3 true 102 rfl rfl (by kernel_rfl) (by kernel_rfl) rfl rfl) (.inl rfl) (by kernel_rfl) (by kernel_rfl) rfl ?_
                    refine Flow.pass_val (.pointer (some ⟨g, x, none⟩)) (Flow.met_some 3 true 102 rfl rfl (by kernel_rfl) (by kernel_rfl) rfl rfl) (fun a W hH => ?_) ?_
                    · have e0 := Flow.see_new 103 4 hH.sees (by kernel_rfl) (by kernel_rfl) rfl rfl
                      have e1 := Flow.see_new 104 5 hH.sees (by kernel_rfl) (by kernel_rfl) rfl rfl
                      exact s_ixS (s := 1) (x) _ rfl Tryz.underlying74 (by kernel_rfl) (by first | exact e0 | simpa [Act.eval] using e0 | (simp [Act.eval])) (by first | exact e1 | simpa [Act.eval] using e1 | (simp [Act.eval])) (by omega) (by omega) (by omega)
                    refine Flow.pass_val (.int .u64 ((d2[x]! : Nat) : Int)) (Flow.met_some 3 true 102 rfl rfl (by kernel_rfl) (by kernel_rfl) rfl rfl) (fun a W hH => ?_) ?_
                    · have e0 := Flow.see_new 105 6 hH.sees (by kernel_rfl) (by kernel_rfl) rfl rfl
                      have cc := nr_cell (hN_wr.below ((Below.refl wr.heap.size wr).drew.trans hH.below) hN_wr.lt) (x) (by omega); go_simp; first | done | rfl
                    refine Flow.pass_old (X := .slice (some ⟨g, 0, none⟩) n cap) 0 (Flow.met_some 3 true 102 rfl rfl (by kernel_rfl) (by kernel_rfl) rfl rfl) (.inl rfl) (by kernel_rfl) (by kernel_rfl) rfl ?_
                    refine Flow.pass_old (X := .int .i64 ((lo : Int))) 1 (Flow.met_some 3 true 102 rfl rfl (by kernel_rfl) (by kernel_rfl) rfl rfl) (.inl rfl) (by kernel_rfl) (by kernel_rfl) rfl ?_
                    refine Flow.pass_val (.pointer (some ⟨g, lo, none⟩)) (Flow.met_some 3 true 102 rfl rfl (by kernel_rfl) (by kernel_rfl) rfl rfl) (fun a W hH => ?_) ?_
                    · have e0 := Flow.see_new 107 8 hH.sees (by kernel_rfl) (by kernel_rfl) rfl rfl
                      have e1 := Flow.see_new 108 9 hH.sees (by kernel_rfl) (by kernel_rfl) rfl rfl
                      exact s_ixS (s := 1) (lo) _ rfl Tryz.underlying74 (by kernel_rfl) (by first | exact e0 | simpa [Act.eval] using e0 | (simp [Act.eval])) (by first | exact e1 | simpa [Act.eval] using e1 | (simp [Act.eval])) (by omega) (by omega) (by omega)
                    refine Flow.pass_val (.int .u64 ((d2[lo]! : Nat) : Int)) (Flow.met_some 3 true 102 rfl rfl (by kernel_rfl) (by kernel_rfl) rfl rfl) (fun a W hH => ?_) ?_
                    · have e0 := Flow.see_new 109 10 hH.sees (by kernel_rfl) (by kernel_rfl) rfl rfl
                      have cc := nr_cell (hN_wr.below ((Below.refl wr.heap.size wr).drew.trans hH.below) hN_wr.lt) (lo) (by omega); go_simp; first | done | rfl
                    refine Flow.pass_step (Reg.eqs (.bool (ltN (d2[x]!) (d2[lo]!)))) (fun _ _ => Flow.kept_eqs _ _) (Flow.met_some 3 true 102 rfl rfl (by kernel_rfl) (by kernel_rfl) rfl rfl) (fun a W hH => ?_) ?_
                    · have e0 := Flow.see_new 106 7 hH.sees (by kernel_rfl) (by kernel_rfl) rfl rfl
                      have e1 := Flow.see_new 110 11 hH.sees (by kernel_rfl) (by kernel_rfl) rfl rfl
                      refine Reg.wp_call rfl Tryz.func162 rfl (by kernel_rfl) (by simp [Act.eval, e0, e1]) (lessN (d2[x]!) (d2[lo]!) W) ?_
                      rintro e w' ⟨rfl, rfl⟩
                      exact ⟨_, rfl, _, rfl, Ext.refl _, rfl⟩
                    refine Flow.pass_val (.bool (ltN (d2[x]!) (d2[lo]!))) (Flow.met_none rfl) (fun a W hH => ?_) ?_
                    · have e0 := Flow.see_new 102 3 hH.sees (by kernel_rfl) (by kernel_rfl) rfl rfl
                      have e1 := Flow.see_new 111 12 hH.sees (by kernel_rfl) (by kernel_rfl) rfl rfl
                      go_simp; first | done | rfl
                    refine Flow.pass_end [none, none, none, none, none, none, none, none, none, none, none, none, none, none, none, none, none, none, none, none, none, none, none, none, none, none, none, none, none, none, none, none, none, none, none, none, none, none, none, none, none, none, none, none, none, none, none, none, none, none, none, none, none, none, none, none, none, none, none, none, none, none, none, none, none, none, none, none, none, none, none, none, none, none, none, none, none, none, none, none, none, none, none, none, none, none, none, none, none, none, none, none, none, none, none, none, none, none, none, some 99, some 100, some 101, some 102, some 103, some 104, some 105, some 106, some 107, some 108, some 109, some 110, some 111, some 112, none, none, none, none, none, none, none, none, none, none, none, none, none, none, none, none, none, none, none, none, none, none, none, none, none, none, none, none, none, none, none, none, none, none, none, none, none, none, none, none, none, none, none, none, none, none, none, none, none, none, none, none, none, none, none] (by kernel_rfl) ?_
                    intro f gg w9 hB hfa hT hfg
                    have h112 : f 112 = _ := (hfg 112 13 (by kernel_rfl)).trans (hT 13 _ (by kernel_rfl) rfl)
                    exact hQ1 f w9 ⟨by rw [h112, decide_eq_true hg, Bool.true_and], (Below.refl wr.heap.size wr).drew.trans hB⟩
                  · skip
                    refine Flow.wp_region_flow (wr.heap.size) [] [] (by kernel_rfl) (by kernel_rfl) (Nat.le_refl _) (fun _ h => by cases h) Flow.facts_nil ?_
                    refine Flow.pass_old (X := .int .i64 ((x : Int))) 10 (Flow.met_none rfl) (.inl rfl) (by kernel_rfl) (by kernel_rfl) rfl ?_
                    refine Flow.pass_old (X := .int .i64 ((y0 : Int))) 11 (Flow.met_none rfl) (.inl rfl) (by kernel_rfl) (by kernel_rfl) rfl ?_
                    refine Flow.pass_val (.bool false) (Flow.met_none rfl) (fun a W hH => ?_) ?_
                    · have e0 := Flow.see_new 99 0 hH.sees (by kernel_rfl) (by kernel_rfl) rfl rfl
                      have e1 := Flow.see_new 100 1 hH.sees (by kernel_rfl) (by kernel_rfl) rfl rfl
                      go_simp; first | done | rfl | omega | (simp; done) | (simp; omega) | exact decide_eq_true (by omega) | exact decide_eq_false (by omega)
                    refine Flow.pass_copy 101 2 (Flow.met_none rfl) (.inl rfl) (by kernel_rfl) (by kernel_rfl) rfl rfl (fun _ _ => Flow.kept_eqs _ _) ?_
                    refine Flow.pass_skip (fun a W hH => Flow.not_wanted 3 true 102 hH rfl rfl (by kernel_rfl) (by kernel_rfl) rfl rfl) ?_
                    refine Flow.pass_skip (fun a W hH => Flow.not_wanted 3 true 102 hH rfl rfl (by kernel_rfl) (by kernel_rfl) rfl rfl) ?_
                    refine Flow.pass_skip (fun a W hH => Flow.not_wanted 3 true 102 hH rfl rfl (by kernel_rfl) (by kernel_rfl) rfl rfl) ?_
                    refine Flow.pass_skip (fun a W hH => Flow.not_wanted 3 true 102 hH rfl rfl (by kernel_rfl) (by kernel_rfl) rfl rfl) ?_
                    refine Flow.pass_skip (fun a W hH => Flow.not_wanted 3 true 102 hH rfl rfl (by kernel_rfl) (by kernel_rfl) rfl rfl) ?_
                    refine Flow.pass_skip (fun a W hH => Flow.not_wanted 3 true 102 hH rfl rfl (by kernel_rfl) (by kernel_rfl) rfl rfl) ?_
                    refine Flow.pass_skip (fun a W hH => Flow.not_wanted 3 true 102 hH rfl rfl (by kernel_rfl) (by kernel_rfl) rfl rfl) ?_
                    refine Flow.pass_skip (fun a W hH => Flow.not_wanted 3 true 102 hH rfl rfl (by kernel_rfl) (by kernel_rfl) rfl rfl) ?_
                    refine Flow.pass_skip (fun a W hH => Flow.not_wanted 3 true 102 hH rfl rfl (by kernel_rfl) (by kernel_rfl) rfl rfl) ?_
                    refine Flow.pass_val (.bool false) (Flow.met_none rfl) (fun a W hH => ?_) ?_
                    · have e0 := Flow.see_new 102 3 hH.sees (by kernel_rfl) (by kernel_rfl) rfl rfl
                      have e1 := Flow.see_new 111 12 hH.sees (by kernel_rfl) (by kernel_rfl) rfl rfl
                      go_simp; first | done | rfl
                    refine Flow.pass_end [none, none, none, none, none, none, none, none, none, none, none, none, none, none, none, none, none, none, none, none, none, none, none, none, none, none, none, none, none, none, none, none, none, none, none, none, none, none, none, none, none, none, none, none, none, none, none, none, none, none, none, none, none, none, none, none, none, none, none, none, none, none, none, none, none, none, none, none, none, none, none, none, none, none, none, none, none, none, none, none, none, none, none, none, none, none, none, none, none, none, none, none, none, none, none, none, none, none, none, some 99, some 100, some 101, some 102, some 103, some 104, some 105, some 106, some 107, some 108, some 109, some 110, some 111, some 112, none, none, none, none, none, none, none, none, none, none, none, none, none, none, none, none, none, none, none, none, none, none, none, none, none, none, none, none, none, none, none, none, none, none, none, none, none, none, none, none, none, none, none, none, none, none, none, none, none, none, none, none, none, none, none] (by kernel_rfl) ?_
                    intro f gg w9 hB hfa hT hfg
                    have h112 : f 112 = _ := (hfg 112 13 (by kernel_rfl)).trans (hT 13 _ (by kernel_rfl) rfl)
                    exact hQ1 f w9 ⟨by rw [h112, decide_eq_false hg, Bool.false_and], (Below.refl wr.heap.size wr).drew.trans hB⟩
                intro f Wu ⟨h112, hBWu⟩
                simp only [Reg.sel, h112]
                have hN_Wu := Blk.below hN_wr hBWu (Blk.lt hN_wr)
                have hC_Wu := hC_wr.trans (Chg.of_ext hBWu)
                clear h112 hBWu
                cases hq : (decide (x ≤ y0) && ltN d2[x]! d2[lo]!) with
                | true =>
                  have hst := Lib.hid (scanUp_step (p := fun x => ltN x d2[lo]!) hq)
                  have hxy : x ≤ y0 := by simp only [Bool.and_eq_true, decide_eq_true_eq] at hq; exact hq.1
                  clear hq
                  go_wp2
                  go_roundw
                  case rel => first | exact ⟨x + 1, by omega, by omega, by go_num, Lib.hid (by rw [← hst.out]; exact hS.out), hN_Wu, hC_Wu⟩ | ((repeat apply Exists.intro); refine ⟨?_, rfl⟩; exact ⟨x + 1, by omega, by omega, by go_num, Lib.hid (by rw [← hst.out]; exact hS.out), hN_Wu, hC_Wu⟩)
                  case measure => first | (simp [intOf]; done) | (simp [intOf]; omega) | (simp only [intOf]; omega)
                | false =>
                  have hxe : IU = x := by rw [← hS.out]; exact scanUp_stop (p := fun x => ltN x d2[lo]!) hq
                  have HXE := Lib.hid hxe
                  have hIUx : Hid (Sort.scanUp (fun x => ltN x d2[lo]!) d2 y0 x0 = x) := Lib.hid (by rw [hIU.out, hxe])
                  clear hq hS hxe hIU HXE
                  obtain ⟨JU, hJU⟩ : ∃ u, Sort.scanDown (fun x => !ltN x d2[lo]!) d2 x y0 = u := ⟨_, rfl⟩
                  have hJU := Lib.hid hJU
                  go_wp2
                  go_loopw [11] (fun j wr => ∃ y : Nat, y ≤ y0 ∧ j = .int .i64 (y : Int) ∧ Hid (Sort.scanDown (fun x => !ltN x d2[lo]!) d2 x y = JU) ∧ NR wr g d2 R ∧ Chg (OnlyG g) w wr) (fun j _ => (intOf j).toNat)
                  case atStart => exact ⟨y0, Nat.le_refl _, by first | rfl | go_num, hJU, hN_Wu, hC_Wu⟩
                  case round =>
                    obtain ⟨y, hy1, rfl, hS, hN_wr, hC_wr⟩ := hrel
                    go_upto_region 15 with (fail)
                    refine s_cut [none, none, none, none, none, none, none, none, none, none, none, none, none, none, none, none, none, none, none, none, none, none, none, none, none, none, none, none, none, none, none, none, none, none, none, none, none, none, none, none, none, none, none, none, none, none, none, none, none, none, none, none, none, none, none, none, none, none, none, none, none, none, none, none, none, none, none, none, none, none, none, none, none, none, none, none, none, none, none, none, none, none, none, none, none, none, none, none, none, none, none, none, none, none, none, none, none, none, none, none, none, none, none, none, none, none, none, none, none, none, none, none, none, none, none, some 115, some 116, some 117, some 118, some 119, some 120, some 121, some 122, some 123, some 124, some 125, some 126, some 127, some 128, some 129, none, none, none, none, none, none, none, none, none, none, none, none, none, none, none, none, none, none, none, none, none, none, none, none, none, none, none, none, none, none, none, none, none, none, none, none, none, none] (fun f W => f 129 = .bool (decide (x ≤ y) && !ltN d2[y]! d2[lo]!) ∧ Below wr.heap.size wr W) (fun Q1 hQ1 => ?_) ?_
                    · by_cases hg : x ≤ y
                      · skip
                        refine Flow.wp_region_flow (wr.heap.size) [] [] (by kernel_rfl) (by kernel_rfl) (Nat.le_refl _) (fun _ h => by cases h) Flow.facts_nil ?_
                        refine Flow.pass_old (X := .int .i64 ((x : Int))) 10 (Flow.met_none rfl) (.inl rfl) (by kernel_rfl) (by kernel_rfl) rfl ?_
                        refine Flow.pass_old (X := .int .i64 ((y : Int))) 11 (Flow.met_none rfl) (.inl rfl) (by kernel_rfl) (by kernel_rfl) rfl ?_
                        refine Flow.pass_val (.bool true) (Flow.met_none rfl) (fun a W hH => ?_) ?_
                        · have e0 := Flow.see_new 115 0 hH.sees (by kernel_rfl) (by kernel_rfl) rfl rfl
                          have e1 := Flow.see_new 116 1 hH.sees (by kernel_rfl) (by kernel_rfl) rfl rfl
                          go_simp; first | done | rfl | omega | (simp; done) | (simp; omega) | exact decide_eq_true (by omega) | exact decide_eq_false (by omega)
                        refine Flow.pass_copy 117 2 (Flow.met_none rfl) (.inl rfl) (by kernel_rfl) (by kernel_rfl) rfl rfl (fun _ _ => Flow.kept_eqs _ _) ?_
                        refine Flow.pass_old (X := .slice (some ⟨g, 0, none⟩) n cap) 0 (Flow.met_some 3 true 118 rfl rfl (by kernel_rfl) (by kernel_rfl) rfl rfl) (.inl rfl) (by kernel_rfl) (by kernel_rfl) rfl ?_
                        refine Flow.pass_old (X := .int .i64 ((y : Int))) 11 (Flow.met_some 3 true 118 rfl rfl (by kernel_rfl) (by kernel_rfl) rfl rfl) (.inl rfl) (by kernel_rfl) (by kernel_rfl) rfl ?_
                        refine Flow.pass_val (.pointer (some ⟨g, y, none⟩)) (Flow.met_some 3 true 118 rfl rfl (by kernel_rfl) (by kernel_rfl) rfl rfl) (fun a W hH => ?_) ?_
                        · have e0 := Flow.see_new 119 4 hH.sees (by kernel_rfl) (by kernel_rfl) rfl rfl
                          have e1 := Flow.see_new 120 5 hH.sees (by kernel_rfl) (by kernel_rfl) rfl rfl
                          exact s_ixS (s := 1) (y) _ rfl Tryz.underlying74 (by kernel_rfl) (by first | exact e0 | simpa [Act.eval] using e0 | (simp [Act.eval])) (by first | exact e1 | simpa [Act.eval] using e1 | (simp [Act.eval])) (by omega) (by omega) (by omega)
                        refine Flow.pass_val (.int .u64 ((d2[y]! : Nat) : Int)) (Flow.met_some 3 true 118 rfl rfl (by kernel_rfl) (by kernel_rfl) rfl rfl) (fun a W hH => ?_) ?_
                        · have e0 := Flow.see_new 121 6 hH.sees (by kernel_rfl) (by kernel_rfl) rfl rfl
                          have cc := nr_cell (hN_wr.below ((Below.refl wr.heap.size wr).drew.trans hH.below) hN_wr.lt) (y) (by omega); go_simp; first | done | rfl
                        refine Flow.pass_old (X := .slice (some ⟨g, 0, none⟩) n cap) 0 (Flow.met_some 3 true 118 rfl rfl (by kernel_rfl) (by kernel_rfl) rfl rfl) (.inl rfl) (by kernel_rfl) (by kernel_rfl) rfl ?_
                        refine Flow.pass_old (X := .int .i64 ((lo : Int))) 1 (Flow.met_some 3 true 118 rfl rfl (by kernel_rfl) (by kernel_rfl) rfl rfl) (.inl rfl) (by kernel_rfl) (by kernel_rfl) rfl ?_
                        refine Flow.pass_val (.pointer (some ⟨g, lo, none⟩)) (Flow.met_some 3 true 118 rfl rfl (by kernel_rfl) (by kernel_rfl) rfl rfl) (fun a W hH => ?_) ?_
                        · have e0 := Flow.see_new 123 8 hH.sees (by kernel_rfl) (by kernel_rfl) rfl rfl
                          have e1 := Flow.see_new 124 9 hH.sees (by kernel_rfl) (by kernel_rfl) rfl rfl
                          exact s_ixS (s := 1) (lo) _ rfl Tryz.underlying74 (by kernel_rfl) (by first | exact e0 | simpa [Act.eval] using e0 | (simp [Act.eval])) (by first | exact e1 | simpa [Act.eval] using e1 | (simp [Act.eval])) (by omega) (by omega) (by omega)
                        refine Flow.pass_val (.int .u64 ((d2[lo]! : Nat) : Int)) (Flow.met_some 3 true 118 rfl rfl (by kernel_rfl) (by kernel_rfl) rfl rfl) (fun a W hH => ?_) ?_
                        · have e0 := Flow.see_new 125 10 hH.sees (by kernel_rfl) (by kernel_rfl) rfl rfl
                          have cc := nr_cell (hN_wr.below ((Below.refl wr.heap.size wr).drew.trans hH.below) hN_wr.lt) (lo) (by omega); go_simp; first | done | rfl
                        refine Flow.pass_step (Reg.eqs (.bool (ltN (d2[y]!) (d2[lo]!)))) (fun _ _ => Flow.kept_eqs _ _) (Flow.met_some 3 true 118 rfl rfl (by kernel_rfl) (by kernel_rfl) rfl rfl) (fun a W hH => ?_) ?_
                        · have e0 := Flow.see_new 122 7 hH.sees (by kernel_rfl) (by kernel_rfl) rfl rfl
                          have e1 := Flow.see_new 126 11 hH.sees (by kernel_rfl) (by kernel_rfl) rfl rfl
                          refine Reg.wp_call rfl Tryz.func162 rfl (by kernel_rfl) (by simp [Act.eval, e0, e1]) (lessN (d2[y]!) (d2[lo]!) W) ?_
                          rintro e w' ⟨rfl, rfl⟩
                          exact ⟨_, rfl, _, rfl, Ext.refl _, rfl⟩
                        refine Flow.pass_val (.bool (!(ltN (d2[y]!) (d2[lo]!)))) (Flow.met_some 3 true 118 rfl rfl (by kernel_rfl) (by kernel_rfl) rfl rfl) (fun a W hH => ?_) ?_
                        · have e0 := Flow.see_new 127 12 hH.sees (by kernel_rfl) (by kernel_rfl) rfl rfl
                          go_simp; first | done | rfl
                        refine Flow.pass_val (.bool (!(ltN (d2[y]!) (d2[lo]!)))) (Flow.met_none rfl) (fun a W hH => ?_) ?_
                        · have e0 := Flow.see_new 118 3 hH.sees (by kernel_rfl) (by kernel_rfl) rfl rfl
                          have e1 := Flow.see_new 128 13 hH.sees (by kernel_rfl) (by kernel_rfl) rfl rfl
                          go_simp; first | done | rfl
                        refine Flow.pass_end [none, none, none, none, none, none, none, none, none, none, none, none, none, none, none, none, none, none, none, none, none, none, none, none, none, none, none, none, none, none, none, none, none, none, none, none, none, none, none, none, none, none, none, none, none, none, none, none, none, none, none, none, none, none, none, none, none, none, none, none, none, none, none, none, none, none, none, none, none, none, none, none, none, none, none, none, none, none, none, none, none, none, none, none, none, none, none, none, none, none, none, none, none, none, none, none, none, none, none, none, none, none, none, none, none, none, none, none, none, none, none, none, none, none, none, some 115, some 116, some 117, some 118, some 119, some 120, some 121, some 122, some 123, some 124, some 125, some 126, some 127, some 128, some 129, none, none, none, none, none, none, none, none, none, none, none, none, none, none, none, none, none, none, none, none, none, none, none, none, none, none, none, none, none, none, none, none, none, none, none, none, none, none] (by kernel_rfl) ?_
                        intro f gg w9 hB hfa hT hfg
                        have h129 : f 129 = _ := (hfg 129 14 (by kernel_rfl)).trans (hT 14 _ (by kernel_rfl) rfl)
                        exact hQ1 f w9 ⟨by rw [h129, decide_eq_true hg, Bool.true_and], (Below.refl wr.heap.size wr).drew.trans hB⟩
                      · skip
                        refine Flow.wp_region_flow (wr.heap.size) [] [] (by kernel_rfl) (by kernel_rfl) (Nat.le_refl _) (fun _ h => by cases h) Flow.facts_nil ?_
                        refine Flow.pass_old (X := .int .i64 ((x : Int))) 10 (Flow.met_none rfl) (.inl rfl) (by kernel_rfl) (by kernel_rfl) rfl ?_
                        refine Flow.pass_old (X := .int .i64 ((y : Int))) 11 (Flow.met_none rfl) (.inl rfl) (by kernel_rfl) (by kernel_rfl) rfl ?_
                        refine Flow.pass_val (.bool false) (Flow.met_none rfl) (fun a W hH => ?_) ?_
                        · have e0 := Flow.see_new 115 0 hH.sees (by kernel_rfl) (by kernel_rfl) rfl rfl
                          have e1 := Flow.see_new 116 1 hH.sees (by kernel_rfl) (by kernel_rfl) rfl rfl
                          go_simp; first | done | rfl | omega | (simp; done) | (simp; omega) | exact decide_eq_true (by omega) | exact decide_eq_false (by omega)
                        refine Flow.pass_copy 117 2 (Flow.met_none rfl) (.inl rfl) (by kernel_rfl) (by kernel_rfl) rfl rfl (fun _ _ => Flow.kept_eqs _ _) ?_
                        refine Flow.pass_skip (fun a W hH => Flow.not_wanted 3 true 118 hH rfl rfl (by kernel_rfl) (by kernel_rfl) rfl rfl) ?_
                        refine Flow.pass_skip (fun a W hH => Flow.not_wanted 3 true 118 hH rfl rfl (by kernel_rfl) (by kernel_rfl) rfl rfl) ?_
                        refine Flow.pass_skip (fun a W hH => Flow.not_wanted 3 true 118 hH rfl rfl (by kernel_rfl) (by kernel_rfl) rfl rfl) ?_
                        refine Flow.pass_skip (fun a W hH => Flow.not_wanted 3 true 118 hH rfl rfl (by kernel_rfl) (by kernel_rfl) rfl rfl) ?_
                        refine Flow.pass_skip (fun a W hH => Flow.not_wanted 3 true 118 hH rfl rfl (by kernel_rfl) (by kernel_rfl) rfl rfl) ?_
                        refine Flow.pass_skip (fun a W hH => Flow.not_wanted 3 true 118 hH rfl rfl (by kernel_rfl) (by kernel_rfl) rfl rfl) ?_
                        refine Flow.pass_skip (fun a W hH => Flow.not_wanted 3 true 118 hH rfl rfl (by kernel_rfl) (by kernel_rfl) rfl rfl) ?_
                        refine Flow.pass_skip (fun a W hH => Flow.not_wanted 3 true 118 hH rfl rfl (by kernel_rfl) (by kernel_rfl) rfl rfl) ?_
                        refine Flow.pass_skip (fun a W hH => Flow.not_wanted 3 true 118 hH rfl rfl (by kernel_rfl) (by kernel_rfl) rfl rfl) ?_
                        refine Flow.pass_skip (fun a W hH => Flow.not_wanted 3 true 118 hH rfl rfl (by kernel_rfl) (by kernel_rfl) rfl rfl) ?_
                        refine Flow.pass_val (.bool false) (Flow.met_none rfl) (fun a W hH => ?_) ?_
                        · have e0 := Flow.see_new 118 3 hH.sees (by kernel_rfl) (by kernel_rfl) rfl rfl
                          have e1 := Flow.see_new 128 13 hH.sees (by kernel_rfl) (by kernel_rfl) rfl rfl
                          go_simp; first | done | rfl
                        refine Flow.pass_end [none, none, none, none, none, none, none, none, none, none, none, none, none, none, none, none, none, none, none, none, none, none, none, none, none, none, none, none, none, none, none, none, none, none, none, none, none, none, none, none, none, none, none, none, none, none, none, none, none, none, none, none, none, none, none, none, none, none, none, none, none, none, none, none, none, none, none, none, none, none, none, none, none, none, none, none, none, none, none, none, none, none, none, none, none, none, none, none, none, none, none, none, none, none, none, none, none, none, none, none, none, none, none, none, none, none, none, none, none, none, none, none, none, none, none, some 115, some 116, some 117, some 118, some 119, some 120, some 121, some 122, some 123, some 124, some 125, some 126, some 127, some 128, some 129, none, none, none, none, none, none, none, none, none, none, none, none, none, none, none, none, none, none, none, none, none, none, none, none, none, none, none, none, none, none, none, none, none, none, none, none, none, none] (by kernel_rfl) ?_
                        intro f gg w9 hB hfa hT hfg
                        have h129 : f 129 = _ := (hfg 129 14 (by kernel_rfl)).trans (hT 14 _ (by kernel_rfl) rfl)
                        exact hQ1 f w9 ⟨by rw [h129, decide_eq_false hg, Bool.false_and], (Below.refl wr.heap.size wr).drew.trans hB⟩
                    intro f Wd ⟨h129, hBWd⟩
                    simp only [Reg.sel, h129]
                    have hN_Wd := Blk.below hN_wr hBWd (Blk.lt hN_wr)
                    have hC_Wd := hC_wr.trans (Chg.of_ext hBWd)
                    clear h129 hBWd
                    cases hq : (decide (x ≤ y) && !ltN d2[y]! d2[lo]!) with
                    | true =>
                      have hxy : x ≤ y := by simp only [Bool.and_eq_true, decide_eq_true_eq] at hq; exact hq.1
                      have hst := Lib.hid (scanDown_step (p := fun x => !ltN x d2[lo]!) (by omega) hq)
                      clear hq
                      go_wp2
                      go_roundw
                      case rel => first | exact ⟨y - 1, by omega, by go_num, Lib.hid (by rw [← hst.out]; exact hS.out), hN_Wd, hC_Wd⟩ | ((repeat apply Exists.intro); refine ⟨?_, rfl⟩; exact ⟨y - 1, by omega, by go_num, Lib.hid (by rw [← hst.out]; exact hS.out), hN_Wd, hC_Wd⟩)
                      case measure => first | (simp [intOf]; done) | (simp [intOf]; omega) | (simp only [intOf]; omega)
                    | false =>
                      have hye : JU = y := by rw [← hS.out]; exact scanDown_stop (p := fun x => !ltN x d2[lo]!) hq
                      have hJUy : Hid (Sort.scanDown (fun x => !ltN x d2[lo]!) d2 x y0 = y) := Lib.hid (by rw [hJU.out, hye])
                      clear hq hS hye hJU
                      by_cases hc : y < x
                      · have hci : (y : Int) < (x : Int) := by omega
                        have hre : Hid (PL = (y, d2)) := Lib.hid (by rw [← hPL.out]; exact partLoop_stop hIUx.out hJUy.out hc)
                        go_wp2
                        go_upto_region 21 with (fail)
                        refine Flow.wp_region_flow (g) [(13, fun b => b = g), (15, fun b => b = g)] [(7, fun W => NR W g d2 R), (11, fun W => NR W g d2 R), (13, fun W => NR W g d2 R), (16, fun W => Chg (OnlyG g) Wd W)] (by kernel_rfl) (by kernel_rfl) (Nat.le_of_lt hN_Wd.lt) (Flow.nz_cons (by rintro b rfl; exact Nat.le_refl _) (Flow.nz_cons (by rintro b rfl; exact Nat.le_refl _) Flow.nz_nil)) (Flow.facts_cons (hN_Wd.drew) (Flow.kept_blk id) (Flow.fz_cons (Flow.no_follow (by kernel_rfl)) (Flow.fz_cons (Flow.no_follow (by kernel_rfl)) Flow.fz_nil)) (Flow.facts_cons (hN_Wd.drew) (Flow.kept_blk id) (Flow.fz_cons (Flow.no_follow (by kernel_rfl)) (Flow.fz_cons (Flow.no_follow (by kernel_rfl)) Flow.fz_nil)) (Flow.facts_cons (hN_Wd.drew) (Flow.kept_blk id) (Flow.fz_cons (Flow.no_follow (by kernel_rfl)) (Flow.fz_cons (Flow.no_follow (by kernel_rfl)) Flow.fz_nil)) (Flow.facts_cons ((Chg.refl _ _).drew) (fun _ _ c h => onlyg_trans h c (by first | exact fun _ hj => hj | exact fun _ hj => hj.elim)) (Flow.fz_cons (fun _ => fun _ _ c h => onlyg_trans h c (by first | exact fun _ hj => hj | exact fun _ hj => hj.elim)) (Flow.fz_cons (fun _ => fun _ _ c h => onlyg_trans h c (by first | exact fun _ hj => hj | exact fun _ hj => hj.elim)) Flow.fz_nil)) Flow.facts_nil)))) ?_
                        refine Flow.pass_old (X := .slice (some ⟨g, 0, none⟩) n cap) 0 (Flow.met_none rfl) (.inl rfl) (by kernel_rfl) (by kernel_rfl) rfl ?_
                        refine Flow.pass_old (X := .int .i64 ((y : Int))) 11 (Flow.met_none rfl) (.inl rfl) (by kernel_rfl) (by kernel_rfl) rfl ?_
                        refine Flow.pass_old (X := .slice (some ⟨g, 0, none⟩) n cap) 0 (Flow.met_none rfl) (.inl rfl) (by kernel_rfl) (by kernel_rfl) rfl ?_
                        refine Flow.pass_old (X := .int .i64 ((lo : Int))) 1 (Flow.met_none rfl) (.inl rfl) (by kernel_rfl) (by kernel_rfl) rfl ?_
                        refine Flow.pass_old (X := .slice (some ⟨g, 0, none⟩) n cap) 0 (Flow.met_none rfl) (.inl rfl) (by kernel_rfl) (by kernel_rfl) rfl ?_
                        refine Flow.pass_old (X := .int .i64 ((lo : Int))) 1 (Flow.met_none rfl) (.inl rfl) (by kernel_rfl) (by kernel_rfl) rfl ?_
                        refine Flow.pass_val (.pointer (some ⟨g, lo, none⟩)) (Flow.met_none rfl) (fun a W hH => ?_) ?_
                        · have e0 := Flow.see_new 157 4 hH.sees (by kernel_rfl) (by kernel_rfl) rfl rfl
                          have e1 := Flow.see_new 158 5 hH.sees (by kernel_rfl) (by kernel_rfl) rfl rfl
                          exact s_ixS (s := 1) (lo) _ rfl Tryz.underlying74 (by kernel_rfl) (by first | exact e0 | simpa [Act.eval] using e0 | (simp [Act.eval])) (by first | exact e1 | simpa [Act.eval] using e1 | (simp [Act.eval])) (by omega) (by omega) (by omega)
                        refine Flow.pass_val (.int .u64 ((d2[lo]! : Nat) : Int)) (Flow.met_none rfl) (fun a W hH => ?_) ?_
                        · have e0 := Flow.see_new 159 6 hH.sees (by kernel_rfl) (by kernel_rfl) rfl rfl
                          have fa0 : (fun W => NR W g d2 R) W := hH.fact _ (List.mem_of_getElem? (i := 0) rfl) rfl
                          have cc := nr_cell fa0 (lo) (by omega); go_simp; first | done | rfl
                        refine Flow.pass_old (X := .slice (some ⟨g, 0, none⟩) n cap) 0 (Flow.met_none rfl) (.inl rfl) (by kernel_rfl) (by kernel_rfl) rfl ?_
                        refine Flow.pass_old (X := .int .i64 ((y : Int))) 11 (Flow.met_none rfl) (.inl rfl) (by kernel_rfl) (by kernel_rfl) rfl ?_
                        refine Flow.pass_val (.pointer (some ⟨g, y, none⟩)) (Flow.met_none rfl) (fun a W hH => ?_) ?_
                        · have e0 := Flow.see_new 161 8 hH.sees (by kernel_rfl) (by kernel_rfl) rfl rfl
                          have e1 := Flow.see_new 162 9 hH.sees (by kernel_rfl) (by kernel_rfl) rfl rfl
                          exact s_ixS (s := 1) (y) _ rfl Tryz.underlying74 (by kernel_rfl) (by first | exact e0 | simpa [Act.eval] using e0 | (simp [Act.eval])) (by first | exact e1 | simpa [Act.eval] using e1 | (simp [Act.eval])) (by omega) (by omega) (by omega)
                        refine Flow.pass_val (.int .u64 ((d2[y]! : Nat) : Int)) (Flow.met_none rfl) (fun a W hH => ?_) ?_
                        · have e0 := Flow.see_new 163 10 hH.sees (by kernel_rfl) (by kernel_rfl) rfl rfl
                          have fa1 : (fun W => NR W g d2 R) W := hH.fact _ (List.mem_of_getElem? (i := 1) rfl) rfl
                          have cc := nr_cell fa1 (y) (by omega); go_simp; first | done | rfl
                        refine Flow.pass_val (.pointer (some ⟨g, y, none⟩)) (Flow.met_none rfl) (fun a W hH => ?_) ?_
                        · have e0 := Flow.see_new 153 0 hH.sees (by kernel_rfl) (by kernel_rfl) rfl rfl
                          have e1 := Flow.see_new 154 1 hH.sees (by kernel_rfl) (by kernel_rfl) rfl rfl
                          exact s_ixS (s := 1) (y) _ rfl Tryz.underlying74 (by kernel_rfl) (by first | exact e0 | simpa [Act.eval] using e0 | (simp [Act.eval])) (by first | exact e1 | simpa [Act.eval] using e1 | (simp [Act.eval])) (by omega) (by omega) (by omega)
                        refine Flow.pass_lin [15] (fun _ W => NR W g (d2.setIfInBounds (y) (d2[lo]!)) R) (Flow.kept_lin [15] (fun _ _ _ c h => h.chg c id) (Flow.lz_cons (Flow.no_follow (by kernel_rfl)) (Flow.lz_cons (fun _ => .inl rfl) Flow.lz_nil))) (Flow.met_none rfl) (fun a W hH => ?_) ?_
                        · have e0 := Flow.see_new 165 12 hH.sees (by kernel_rfl) (by kernel_rfl) rfl rfl
                          have e1 := Flow.see_new 160 7 hH.sees (by kernel_rfl) (by kernel_rfl) rfl rfl
                          have fa2 : (fun W => NR W g d2 R) W := hH.fact _ (List.mem_of_getElem? (i := 2) rfl) rfl
                          refine s_skip (s_store rfl (by kernel_rfl) fa2 e0 e1 (nr_size (by omega))) ?_
                          exact ⟨_, rfl, Chg.grown (s_grown _ _ _ _) (by rintro j h; cases h; rfl), nr_set fa2 _ (by omega) _⟩
                        refine Flow.pass_val (.pointer (some ⟨g, lo, none⟩)) (Flow.met_none rfl) (fun a W hH => ?_) ?_
                        · have e0 := Flow.see_new 155 2 hH.sees (by kernel_rfl) (by kernel_rfl) rfl rfl
                          have e1 := Flow.see_new 156 3 hH.sees (by kernel_rfl) (by kernel_rfl) rfl rfl
                          exact s_ixS (s := 1) (lo) _ rfl Tryz.underlying74 (by kernel_rfl) (by first | exact e0 | simpa [Act.eval] using e0 | (simp [Act.eval])) (by first | exact e1 | simpa [Act.eval] using e1 | (simp [Act.eval])) (by omega) (by omega) (by omega)
                        refine Flow.pass_gen (fun _ W => NR W g ((d2.setIfInBounds (y) (d2[lo]!)).setIfInBounds (lo) (d2[y]!)) R) (Flow.kept_of (fun _ _ _ c h => h.chg c id) (Flow.kz_cons (Flow.no_follow (by kernel_rfl)) (Flow.kz_cons (Flow.no_follow (by kernel_rfl)) Flow.kz_nil))) (Flow.met_none rfl) (fun a W hH => ?_) ?_
                        · have e0 := Flow.see_new 166 14 hH.sees (by kernel_rfl) (by kernel_rfl) rfl rfl
                          have e1 := Flow.see_new 164 11 hH.sees (by kernel_rfl) (by kernel_rfl) rfl rfl
                          obtain ⟨_, hP⟩ := Flow.past_lin 13 hH.past (by kernel_rfl) (by kernel_rfl) rfl (by kernel_rfl)
                          refine s_skip (s_store rfl (by kernel_rfl) hP e0 e1 (nr_size (by rw [Array.size_setIfInBounds]; omega))) ?_
                          exact ⟨_, rfl, Chg.grown (s_grown _ _ _ _) (by rintro j h; cases h; rfl), nr_set hP _ (by rw [Array.size_setIfInBounds]; omega) _⟩
                        refine Flow.pass_end [none, none, none, none, none, none, none, none, none, none, none, none, none, none, none, none, none, none, none, none, none, none, none, none, none, none, none, none, none, none, none, none, none, none, none, none, none, none, none, none, none, none, none, none, none, none, none, none, none, none, none, none, none, none, none, none, none, none, none, none, none, none, none, none, none, none, none, none, none, none, none, none, none, none, none, none, none, none, none, none, none, none, none, none, none, none, none, none, none, none, none, none, none, none, none, none, none, none, none, none, none, none, none, none, none, none, none, none, none, none, none, none, none, none, none, none, none, none, none, none, none, none, none, none, none, none, none, none, none, none, none, none, none, none, none, none, none, none, none, none, none, none, none, none, none, none, none, none, none, none, none, none, none, some 153, some 154, some 155, some 156, some 157, some 158, some 159, some 160, some 161, some 162, some 163, some 164, some 165, some 166, none] (by kernel_rfl) ?_
                        intro f gg w9 hB hfa hT hfg
                        have F3 : (fun W => Chg (OnlyG g) Wd W) w9 := hfa _ (List.mem_of_getElem? (i := 3) rfl) (Nat.le_refl _)
                        have hN_W8 : NR w9 g (Sort.swp d2 (y) (lo)) R := hT 15 _ (by kernel_rfl) rfl
                        have hC_W8 := hC_Wd.trans F3
                        simp only [Reg.sel]
                        obtain ⟨W8, hWW8⟩ : ∃ W, W = w9 := ⟨_, rfl⟩
                        subst hWW8
                        clear hT hfg hfa hB F3
                        go_wp2
                        go_ret2
                        refine ⟨?_, ?_, hC_W8⟩
                        · rw [HRES.out, hre.out]; rfl
                        · rw [HRES.out, hre.out]; exact hN_W8
                      · have hci : ¬ (y : Int) < (x : Int) := by omega
                        have hst : Hid (Sort.partLoop ltN lo (x + 1) (y - 1) (Sort.swp d2 x y) = PL) := Lib.hid (by rw [← hPL.out]; exact (partLoop_step hIUx.out hJUy.out hc hx1 hy1 (by omega)).symm)
                        go_wp2
                        go_upto_region 18 with (fail)
                        refine Flow.wp_region_flow (g) [(13, fun b => b = g), (15, fun b => b = g)] [(7, fun W => NR W g d2 R), (11, fun W => NR W g d2 R), (13, fun W => NR W g d2 R), (16, fun W => Chg (OnlyG g) Wd W)] (by kernel_rfl) (by kernel_rfl) (Nat.le_of_lt hN_Wd.lt) (Flow.nz_cons (by rintro b rfl; exact Nat.le_refl _) (Flow.nz_cons (by rintro b rfl; exact Nat.le_refl _) Flow.nz_nil)) (Flow.facts_cons (hN_Wd.drew) (Flow.kept_blk id) (Flow.fz_cons (Flow.no_follow (by kernel_rfl)) (Flow.fz_cons (Flow.no_follow (by kernel_rfl)) Flow.fz_nil)) (Flow.facts_cons (hN_Wd.drew) (Flow.kept_blk id) (Flow.fz_cons (Flow.no_follow (by kernel_rfl)) (Flow.fz_cons (Flow.no_follow (by kernel_rfl)) Flow.fz_nil)) (Flow.facts_cons (hN_Wd.drew) (Flow.kept_blk id) (Flow.fz_cons (Flow.no_follow (by kernel_rfl)) (Flow.fz_cons (Flow.no_follow (by kernel_rfl)) Flow.fz_nil)) (Flow.facts_cons ((Chg.refl _ _).drew) (fun _ _ c h => onlyg_trans h c (by first | exact fun _ hj => hj | exact fun _ hj => hj.elim)) (Flow.fz_cons (fun _ => fun _ _ c h => onlyg_trans h c (by first | exact fun _ hj => hj | exact fun _ hj => hj.elim)) (Flow.fz_cons (fun _ => fun _ _ c h => onlyg_trans h c (by first | exact fun _ hj => hj | exact fun _ hj => hj.elim)) Flow.fz_nil)) Flow.facts_nil)))) ?_
                        refine Flow.pass_old (X := .slice (some ⟨g, 0, none⟩) n cap) 0 (Flow.met_none rfl) (.inl rfl) (by kernel_rfl) (by kernel_rfl) rfl ?_
                        refine Flow.pass_old (X := .int .i64 ((x : Int))) 10 (Flow.met_none rfl) (.inl rfl) (by kernel_rfl) (by kernel_rfl) rfl ?_
                        refine Flow.pass_old (X := .slice (some ⟨g, 0, none⟩) n cap) 0 (Flow.met_none rfl) (.inl rfl) (by kernel_rfl) (by kernel_rfl) rfl ?_
                        refine Flow.pass_old (X := .int .i64 ((y : Int))) 11 (Flow.met_none rfl) (.inl rfl) (by kernel_rfl) (by kernel_rfl) rfl ?_
                        refine Flow.pass_old (X := .slice (some ⟨g, 0, none⟩) n cap) 0 (Flow.met_none rfl) (.inl rfl) (by kernel_rfl) (by kernel_rfl) rfl ?_
                        refine Flow.pass_old (X := .int .i64 ((y : Int))) 11 (Flow.met_none rfl) (.inl rfl) (by kernel_rfl) (by kernel_rfl) rfl ?_
                        refine Flow.pass_val (.pointer (some ⟨g, y, none⟩)) (Flow.met_none rfl) (fun a W hH => ?_) ?_
                        · have e0 := Flow.see_new 139 4 hH.sees (by kernel_rfl) (by kernel_rfl) rfl rfl
                          have e1 := Flow.see_new 140 5 hH.sees (by kernel_rfl) (by kernel_rfl) rfl rfl
                          exact s_ixS (s := 1) (y) _ rfl Tryz.underlying74 (by kernel_rfl) (by first | exact e0 | simpa [Act.eval] using e0 | (simp [Act.eval])) (by first | exact e1 | simpa [Act.eval] using e1 | (simp [Act.eval])) (by omega) (by omega) (by omega)
                        refine Flow.pass_val (.int .u64 ((d2[y]! : Nat) : Int)) (Flow.met_none rfl) (fun a W hH => ?_) ?_
                        · have e0 := Flow.see_new 141 6 hH.sees (by kernel_rfl) (by kernel_rfl) rfl rfl
                          have fa0 : (fun W => NR W g d2 R) W := hH.fact _ (List.mem_of_getElem? (i := 0) rfl) rfl
                          have cc := nr_cell fa0 (y) (by omega); go_simp; first | done | rfl
                        refine Flow.pass_old (X := .slice (some ⟨g, 0, none⟩) n cap) 0 (Flow.met_none rfl) (.inl rfl) (by kernel_rfl) (by kernel_rfl) rfl ?_
                        refine Flow.pass_old (X := .int .i64 ((x : Int))) 10 (Flow.met_none rfl) (.inl rfl) (by kernel_rfl) (by kernel_rfl) rfl ?_
                        refine Flow.pass_val (.pointer (some ⟨g, x, none⟩)) (Flow.met_none rfl) (fun a W hH => ?_) ?_
                        · have e0 := Flow.see_new 143 8 hH.sees (by kernel_rfl) (by kernel_rfl) rfl rfl
                          have e1 := Flow.see_new 144 9 hH.sees (by kernel_rfl) (by kernel_rfl) rfl rfl
                          exact s_ixS (s := 1) (x) _ rfl Tryz.underlying74 (by kernel_rfl) (by first | exact e0 | simpa [Act.eval] using e0 | (simp [Act.eval])) (by first | exact e1 | simpa [Act.eval] using e1 | (simp [Act.eval])) (by omega) (by omega) (by omega)
                        refine Flow.pass_val (.int .u64 ((d2[x]! : Nat) : Int)) (Flow.met_none rfl) (fun a W hH => ?_) ?_
                        · have e0 := Flow.see_new 145 10 hH.sees (by kernel_rfl) (by kernel_rfl) rfl rfl
                          have fa1 : (fun W => NR W g d2 R) W := hH.fact _ (List.mem_of_getElem? (i := 1) rfl) rfl
                          have cc := nr_cell fa1 (x) (by omega); go_simp; first | done | rfl
                        refine Flow.pass_val (.pointer (some ⟨g, x, none⟩)) (Flow.met_none rfl) (fun a W hH => ?_) ?_
                        · have e0 := Flow.see_new 135 0 hH.sees (by kernel_rfl) (by kernel_rfl) rfl rfl
                          have e1 := Flow.see_new 136 1 hH.sees (by kernel_rfl) (by kernel_rfl) rfl rfl
                          exact s_ixS (s := 1) (x) _ rfl Tryz.underlying74 (by kernel_rfl) (by first | exact e0 | simpa [Act.eval] using e0 | (simp [Act.eval])) (by first | exact e1 | simpa [Act.eval] using e1 | (simp [Act.eval])) (by omega) (by omega) (by omega)
                        refine Flow.pass_lin [15] (fun _ W => NR W g (d2.setIfInBounds (x) (d2[y]!)) R) (Flow.kept_lin [15] (fun _ _ _ c h => h.chg c id) (Flow.lz_cons (Flow.no_follow (by kernel_rfl)) (Flow.lz_cons (fun _ => .inl rfl) Flow.lz_nil))) (Flow.met_none rfl) (fun a W hH => ?_) ?_
                        · have e0 := Flow.see_new 147 12 hH.sees (by kernel_rfl) (by kernel_rfl) rfl rfl
                          have e1 := Flow.see_new 142 7 hH.sees (by kernel_rfl) (by kernel_rfl) rfl rfl
                          have fa2 : (fun W => NR W g d2 R) W := hH.fact _ (List.mem_of_getElem? (i := 2) rfl) rfl
                          refine s_skip (s_store rfl (by kernel_rfl) fa2 e0 e1 (nr_size (by omega))) ?_
                          exact ⟨_, rfl, Chg.grown (s_grown _ _ _ _) (by rintro j h; cases h; rfl), nr_set fa2 _ (by omega) _⟩
                        refine Flow.pass_val (.pointer (some ⟨g, y, none⟩)) (Flow.met_none rfl) (fun a W hH => ?_) ?_
                        · have e0 := Flow.see_new 137 2 hH.sees (by kernel_rfl) (by kernel_rfl) rfl rfl
                          have e1 := Flow.see_new 138 3 hH.sees (by kernel_rfl) (by kernel_rfl) rfl rfl
                          exact s_ixS (s := 1) (y) _ rfl Tryz.underlying74 (by kernel_rfl) (by first | exact e0 | simpa [Act.eval] using e0 | (simp [Act.eval])) (by first | exact e1 | simpa [Act.eval] using e1 | (simp [Act.eval])) (by omega) (by omega) (by omega)
                        refine Flow.pass_gen (fun _ W => NR W g ((d2.setIfInBounds (x) (d2[y]!)).setIfInBounds (y) (d2[x]!)) R) (Flow.kept_of (fun _ _ _ c h => h.chg c id) (Flow.kz_cons (Flow.no_follow (by kernel_rfl)) (Flow.kz_cons (Flow.no_follow (by kernel_rfl)) Flow.kz_nil))) (Flow.met_none rfl) (fun a W hH => ?_) ?_
                        · have e0 := Flow.see_new 148 14 hH.sees (by kernel_rfl) (by kernel_rfl) rfl rfl
                          have e1 := Flow.see_new 146 11 hH.sees (by kernel_rfl) (by kernel_rfl) rfl rfl
                          obtain ⟨_, hP⟩ := Flow.past_lin 13 hH.past (by kernel_rfl) (by kernel_rfl) rfl (by kernel_rfl)
                          refine s_skip (s_store rfl (by kernel_rfl) hP e0 e1 (nr_size (by rw [Array.size_setIfInBounds]; omega))) ?_
                          exact ⟨_, rfl, Chg.grown (s_grown _ _ _ _) (by rintro j h; cases h; rfl), nr_set hP _ (by rw [Array.size_setIfInBounds]; omega) _⟩
                        refine Flow.pass_end [none, none, none, none, none, none, none, none, none, none, none, none, none, none, none, none, none, none, none, none, none, none, none, none, none, none, none, none, none, none, none, none, none, none, none, none, none, none, none, none, none, none, none, none, none, none, none, none, none, none, none, none, none, none, none, none, none, none, none, none, none, none, none, none, none, none, none, none, none, none, none, none, none, none, none, none, none, none, none, none, none, none, none, none, none, none, none, none, none, none, none, none, none, none, none, none, none, none, none, none, none, none, none, none, none, none, none, none, none, none, none, none, none, none, none, none, none, none, none, none, none, none, none, none, none, none, none, none, none, none, none, none, none, none, none, some 135, some 136, some 137, some 138, some 139, some 140, some 141, some 142, some 143, some 144, some 145, some 146, some 147, some 148, none, none, none, none, none, none, none, none, none, none, none, none, none, none, none, none, none, none, none] (by kernel_rfl) ?_
                        intro f gg w9 hB hfa hT hfg
                        have F3 : (fun W => Chg (OnlyG g) Wd W) w9 := hfa _ (List.mem_of_getElem? (i := 3) rfl) (Nat.le_refl _)
                        have hN_W8 : NR w9 g (Sort.swp d2 (x) (y)) R := hT 15 _ (by kernel_rfl) rfl
                        have hC_W8 := hC_Wd.trans F3
                        simp only [Reg.sel]
                        obtain ⟨W8, hWW8⟩ : ∃ W, W = w9 := ⟨_, rfl⟩
                        subst hWW8
                        clear hT hfg hfa hB F3
                        go_wp2
                        go_roundw
                        case rel => first | exact ⟨x + 1, y - 1, _, by omega, by omega, by omega, by go_num, by go_num, hst, by rw [swp_size]; exact hn2, hN_W8, hC_W8⟩ | ((repeat apply Exists.intro); refine ⟨?_, rfl⟩; exact ⟨x + 1, y - 1, _, by omega, by omega, by omega, by go_num, by go_num, hst, by rw [swp_size]; exact hn2, hN_W8, hC_W8⟩)
                        case measure => first | (simp [intOf]; done) | (simp [intOf]; omega) | (simp only [intOf]; omega)
end Go.Proofs.YtipdmhppadapkaaGreatDoor
