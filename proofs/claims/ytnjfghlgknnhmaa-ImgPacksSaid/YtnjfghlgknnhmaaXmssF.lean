/-
  Walks: portreeveref04.KeyOf of any bytes.
-/
import Derived.Test.YtnjfghlgknnhmaaXmssE
import Derived.Test.YtnjfghlgknnhmaaWordC
namespace Go.Proofs.Ytnjfghlgknnhmaa
open Go.RowKit

theorem Rd.at_ {w : World} {B n : Nat} {A : Option Addr} {l : List UInt8} (h : Rd w B 1 A n (bcells l)) (k m : Nat) (hkm : k + m ≤ n) (hk : 0 < k) :
    Rd w B 1 (A.map fun x => ⟨x.block, x.off + k, none⟩) m (bcells ((l.drop k).take m)) := by
  have h1 := (cutTo_on (A := A) (n := n) (k := k) (c := n + k) hk (by omega) (by omega)) _ _ _ h
  have h2 := h1.front (k := m) (by omega)
  rw [Nat.mul_one] at h2
  simp only [bcells, List.map_take, List.map_drop] at h2 ⊢
  exact h2

set_option maxRecDepth 100000 in
set_option maxHeartbeats 1000000 in
theorem rKeyOf_no (A : Option Addr) (n c : Nat) (l : List UInt8) (w : World) (h : Rd w w.heap.size 1 A n (bcells l)) (hn : n ≤ 1000000) (h68 : ¬ n = 68 ∨ isKind (rdNum l 0 4 false) = false) :
    Calls Try.prog 23 #[.slice A n c] w fun e w' => e = .returned (.tuple #[.agg Try.zeroCells41, .int .i64 80]) ∧ Below w.heap.size w w' := by
  go_enter Try.func23, Try.ntmps23
  go_wp2_with fail
  have B1 : Below w.heap.size w (w.alloc (.cells Try.zeroCells41 41)) := (Below.refl _ w).alloc (Nat.le_refl _) _
  have h1 : Rd (w.alloc (.cells Try.zeroCells41 41)) (w.alloc (.cells Try.zeroCells41 41)).heap.size 1 A n (bcells l) := (h.alloc (Nat.le_refl _) _).more (by simp)
  have hb := Blk.new w 41 Try.zeroCells41
  generalize w.alloc (.cells Try.zeroCells41 41) = W at *
  refine (number_any A n c 0 false l W 4 h1 (by omega) (by omega) (by omega)).mono ?_
  rintro e w' ⟨rfl, rfl⟩
  have hlt := rdNum_lt l 0 4 false
  generalize rdNum l 0 4 false = o at *
  have hcv : IntKind.u32.wrap (o : Int) = (o : Int) := IntWalk.u32_in _ (by omega)
  go_wp2_with fail
  refine (rHeight_any o W).mono ?_
  rintro e w' ⟨rfl, rfl⟩
  have hzl : Try.zeroCells41.size = 65 := by kernel_rfl
  rcases h68 with h68 | h68
  · go_wp2_with ((with_reducible refine at_store 41 ?_); refine wpList_storeAll W rfl 41 _ _ rfl w.heap.size 41 _ Try.zeroCells41 hb rfl rfl rfl (by rw [hzl]; kernel_rfl) (fun v hv => Array.all_eq_true_iff_forall_mem.1 keyOne v (by simpa using hv)) ?_; intro w3 hb3 hg3 hs3)
    all_goals
      refine bodyPost_ret (results_cell_tmp rfl _ _ w.heap.size _ _ _ _ rfl hb3 Try.underlying41 rfl (by rw [hzl]; kernel_rfl)) rfl ⟨rfl, ?_⟩
      exact grown_below B1 hg3 B1.size (Nat.le_refl _)
  · rw [h68]
    go_wp2_with ((with_reducible refine at_store 41 ?_); refine wpList_storeAll W rfl 41 _ _ rfl w.heap.size 41 _ Try.zeroCells41 hb rfl rfl rfl (by rw [hzl]; kernel_rfl) (fun v hv => Array.all_eq_true_iff_forall_mem.1 keyOne v (by simpa using hv)) ?_; intro w3 hb3 hg3 hs3)
    all_goals
      refine bodyPost_ret (results_cell_tmp rfl _ _ w.heap.size _ _ _ _ rfl hb3 Try.underlying41 rfl (by rw [hzl]; kernel_rfl)) rfl ⟨rfl, ?_⟩
      exact grown_below B1 hg3 B1.size (Nat.le_refl _)

set_option maxRecDepth 100000 in
set_option maxHeartbeats 2000000 in
theorem rKeyOf_yes (A : Option Addr) (c : Nat) (l : List UInt8) (w : World) (h : Rd w w.heap.size 1 A 68 (bcells l)) (hc : 68 ≤ c) (hk : isKind (rdNum l 0 4 false) = true)
    (r s : List UInt8) (hr : r = (l.drop 4).take 32) (hs : s = l.drop 36) :
    Calls Try.prog 23 #[.slice A 68 c] w fun e w' => e = .returned (.tuple #[.agg (keyCells (rdNum l 0 4 false) r s).toArray, .int .i64 0]) ∧ Below w.heap.size w w' := by
  have hlen : 68 = l.length := by have := h.len; rw [bcells_length] at this; omega
  have rL : Hid (r.length = 32) := Lib.hid (by rw [hr]; simp; omega)
  have sL : Hid (s.length = 32) := Lib.hid (by rw [hs]; simp; omega)
  have HLEN := Lib.hid hlen
  have HR := Lib.hid hr
  have HS := Lib.hid hs
  clear hlen hr hs
  go_enter Try.func23, Try.ntmps23
  go_wp2_with fail
  have B1 : Below w.heap.size w (w.alloc (.cells Try.zeroCells41 41)) := (Below.refl _ w).alloc (Nat.le_refl _) _
  have h1 : Rd (w.alloc (.cells Try.zeroCells41 41)) (w.alloc (.cells Try.zeroCells41 41)).heap.size 1 A 68 (bcells l) := (h.alloc (Nat.le_refl _) _).more (by simp)
  have hb := Blk.new w 41 Try.zeroCells41
  generalize w.alloc (.cells Try.zeroCells41 41) = W at *
  refine (number_any A 68 c 0 false l W 4 h1 (by omega) (by omega) (by omega)).mono ?_
  rintro e w' ⟨rfl, rfl⟩
  have hlt := rdNum_lt l 0 4 false
  have hcv : IntKind.u32.wrap (rdNum l 0 4 false : Int) = (rdNum l 0 4 false : Int) := IntWalk.u32_in _ (by omega)
  go_wp2_with fail
  refine (rHeight_any (rdNum l 0 4 false) W).mono ?_
  rintro e w' ⟨rfl, rfl⟩
  rw [hk]
  have hz := hb
  have B3' := B1.drew
  have hr1 : Rd W.drew w.heap.size 1 (A.map fun x => ⟨x.block, x.off + 4, none⟩) 32 (bcells r) := by
    have := ((h.at_ 4 32 (by omega) (by omega)).below B1).drew
    rw [HR.out]
    exact this
  have hr2 : Rd W.drew w.heap.size 1 (A.map fun x => ⟨x.block, x.off + 36, none⟩) 32 (bcells s) := by
    have := ((h.at_ 36 32 (by omega) (by omega)).below B1).drew
    rw [HS.out]
    rw [List.take_of_length_le (by have := HLEN.out; simp; omega)] at this
    exact this
  have hk65 : (keyCells (rdNum l 0 4 false) r s).toArray.size = 65 := by simp [keyCells, bcells_length, rL.out, sL.out]
  have h4 : ¬ c = 4 := by omega
  have h36 : ¬ c = 36 := by omega
  have c36 : (36 : Int) ≤ (c : Int) := by omega
  go_wp2_with fail
  refine Flow.wp_region_flow (w.heap.size) [(11, fun b => b = w.heap.size)] [(11, fun W => Blk W w.heap.size 41 Try.zeroCells41)] (by kernel_rfl) (by kernel_rfl) B3'.size (Flow.nz_cons (by rintro b rfl; exact Nat.le_refl _) Flow.nz_nil) (Flow.facts_cons (hz.drew) (Flow.kept_blk id) (Flow.fz_cons (Flow.no_follow (by kernel_rfl)) Flow.fz_nil) Flow.facts_nil) ?_
  refine Flow.pass_old 4 (Flow.met_none rfl) (.inl rfl) (by kernel_rfl) (by kernel_rfl) rfl ?_
  refine Flow.pass_val (.int .u32 (rdNum l 0 4 false : Nat)) (Flow.met_none rfl) (fun a W hH => ?_) ?_
  · have e0 := Flow.see_new 27 0 hH.sees (by kernel_rfl) (by kernel_rfl) rfl rfl
    go_simp
  refine Flow.pass_old 0 (Flow.met_none rfl) (.inl rfl) (by kernel_rfl) (by kernel_rfl) rfl ?_
  refine Flow.pass_val (.slice (A.map fun x => ⟨x.block, x.off + 4, none⟩) 32 (c - 4)) (Flow.met_none rfl) (fun a W hH => ?_) ?_
  · have e0 := Flow.see_new 29 2 hH.sees (by kernel_rfl) (by kernel_rfl) rfl rfl
    go_simp
  refine Flow.pass_val (.pointer (A.map fun x => ⟨x.block, x.off + 4, none⟩)) (Flow.met_none rfl) (fun a W hH => ?_) ?_
  · have e0 := Flow.see_new 30 3 hH.sees (by kernel_rfl) (by kernel_rfl) rfl rfl
    exact Flow.reg_array _ rfl e0 Try.underlying29 (Nat.le_refl _)
  refine Flow.pass_val (.agg (bcells (r)).toArray) (Flow.met_none rfl) (fun a W hH => ?_) ?_
  · have e0 := Flow.see_new 31 4 hH.sees (by kernel_rfl) (by kernel_rfl) rfl rfl
    exact reg_loadRd 29 _ rfl e0 (hr1.below hH.below) Try.underlying29 rfl (by rw [List.size_toArray, bcells_length, rL.out]; exact infNode) (by rw [bcells_length, rL.out]; omega)
  refine Flow.pass_old 0 (Flow.met_none rfl) (.inl rfl) (by kernel_rfl) (by kernel_rfl) rfl ?_
  refine Flow.pass_val (.slice (A.map fun x => ⟨x.block, x.off + 36, none⟩) 32 (c - 36)) (Flow.met_none rfl) (fun a W hH => ?_) ?_
  · have e0 := Flow.see_new 33 6 hH.sees (by kernel_rfl) (by kernel_rfl) rfl rfl
    go_simp
  refine Flow.pass_val (.pointer (A.map fun x => ⟨x.block, x.off + 36, none⟩)) (Flow.met_none rfl) (fun a W hH => ?_) ?_
  · have e0 := Flow.see_new 34 7 hH.sees (by kernel_rfl) (by kernel_rfl) rfl rfl
    exact Flow.reg_array _ rfl e0 Try.underlying29 (Nat.le_refl _)
  refine Flow.pass_val (.agg (bcells (s)).toArray) (Flow.met_none rfl) (fun a W hH => ?_) ?_
  · have e0 := Flow.see_new 35 8 hH.sees (by kernel_rfl) (by kernel_rfl) rfl rfl
    exact reg_loadRd 29 _ rfl e0 (hr2.below hH.below) Try.underlying29 rfl (by rw [List.size_toArray, bcells_length, sL.out]; exact infNode) (by rw [bcells_length, sL.out]; omega)
  refine Flow.pass_val (.agg (keyCells (rdNum l 0 4 false) r s).toArray) (Flow.met_none rfl) (fun a W hH => ?_) ?_
  · have e0 := Flow.see_new 28 1 hH.sees (by kernel_rfl) (by kernel_rfl) rfl rfl
    have e1 := Flow.see_new 32 5 hH.sees (by kernel_rfl) (by kernel_rfl) rfl rfl
    have e2 := Flow.see_new 36 9 hH.sees (by kernel_rfl) (by kernel_rfl) rfl rfl
    exact Flow.reg_build _ rfl (by simp [Act.eval, e0, e1, e2]) (run_key (rdNum l 0 4 false) r s _ rL.out sL.out)
  refine Flow.pass_list (fun _ W => Blk W w.heap.size 41 (keyCells (rdNum l 0 4 false) r s).toArray) (Flow.kept_of (fun _ _ _ c h => h.chg c id) (Flow.kz_cons (Flow.no_follow (by kernel_rfl)) Flow.kz_nil)) (Flow.met_none rfl) (fun a W hH => ?_) ?_
  · have e0 := Flow.see_old 2 hH.sees (by kernel_rfl) (by kernel_rfl) rfl
    have e1 := Flow.see_new 37 10 hH.sees (by kernel_rfl) (by kernel_rfl) rfl rfl
    have fa0 : (fun W => Blk W w.heap.size 41 Try.zeroCells41) W := hH.fact _ (List.mem_of_getElem? (i := 0) rfl) rfl
    refine wpList_storeAll W rfl 41 _ _ rfl w.heap.size 41 _ (keyCells (rdNum l 0 4 false) r s).toArray fa0 (by simpa [Act.eval] using e0) (by simpa [Act.eval] using e1) (by rw [hk65]; kernel_rfl) (by rw [hk65]; kernel_rfl) (keyCells_one _ r s) ?_
    intro W2 h2 hg _
    exact Flow.qq_nil ⟨_, rfl, Chg.grown hg (by rintro k h; cases h; rfl), h2⟩
  apply Flow.pass_val (hm := (Flow.met_none rfl))
  · intro a W hH
    go_simp; first | done | rfl
  refine Flow.pass_end [none, none, none, some 3, none, none, none, none, none, none, none, none, none, none, none, none, none, none, none, none, none, none, none, none, none, none, none, some 27, some 28, some 29, some 30, some 31, some 32, some 33, some 34, some 35, some 36, some 37] (by kernel_rfl) ?_
  intro f g w9 hB hfa hT hfg
  have hb9 := hT 11 _ (by kernel_rfl) rfl
  have h3 : f 3 = .int .i64 0 := (hfg 3 12 (by kernel_rfl)).trans (hT 12 _ (by kernel_rfl) rfl)
  simp only [Reg.sel, h3]
  clear hT hfg hfa
  go_wp2
  refine bodyPost_ret (results_cell_tmp rfl _ _ w.heap.size _ _ _ _ rfl hb9 Try.underlying41 rfl (by rw [hk65]; kernel_rfl)) rfl ⟨rfl, ?_⟩
  exact B3'.trans hB

theorem rKeyOf_any (A : Option Addr) (n c : Nat) (l : List UInt8) (w : World) (h : Rd w w.heap.size 1 A n (bcells l)) (hn : n ≤ 1000000) (hc : n ≤ c) :
    Calls Try.prog 23 #[.slice A n c] w fun e w' => e = .returned (.tuple #[.agg (keyVal l).toArray, .int .i64 (keyErr l)]) ∧ Below w.heap.size w w' := by
  have hlen : n = l.length := by have := h.len; rw [bcells_length] at this; omega
  by_cases h68 : n = 68 ∧ isKind (rdNum l 0 4 false) = true
  · obtain ⟨h68, hk⟩ := h68
    have e : keyOk l = true := by simp [keyOk, hk, ← hlen, h68]
    subst h68
    rw [keyVal, keyErr, e]
    exact rKeyOf_yes A c l w h hc hk _ _ rfl rfl
  · have hor : ¬ n = 68 ∨ isKind (rdNum l 0 4 false) = false := by
      by_cases h1 : n = 68
      · right; cases h2 : isKind (rdNum l 0 4 false) <;> simp_all
      · exact .inl h1
    have e : keyOk l = false := by
      rcases hor with h1 | h1
      · simp [keyOk, ← hlen, h1]
      · simp [keyOk, h1]
    have := rKeyOf_no A n c l w h hn hor
    rw [keyZero] at this
    rw [keyVal, keyErr, e]
    exact this
end Go.Proofs.Ytnjfghlgknnhmaa
