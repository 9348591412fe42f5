/-
  Walks: xmss.KeyOf of any bytes.
-/
import Derived.Test.YtnjfghlgknnhmaaXmssD
import Derived.Test.YtnjfghlgknnhmaaBuild
import Derived.Test.YtnjfghlgknnhmaaEq
namespace Go.Proofs.Ytnjfghlgknnhmaa
open Go.RowKit

theorem reg_loadRd {P : Program} {o : Oper} {a : Act} {w : World} (ty : TypeId) (t : Tmp) (ho : o.op = .load ty (.tmp t)) {A : Option Addr} {B n : Nat} {l : List UInt8} (he : a.tmps[t]?.getD undef = .pointer A)
    (h : Rd w B 1 A n (bcells l)) {d : TypeDesc} (hu : P.underlying ty = some d) (hd : d.isRow = true) (hi : (P.info? ty).map (·.size) = some (bcells l).toArray.size) (hn : 0 < (bcells l).length) :
    (execOp a.eval o).run P w = .ok (.value (.agg (bcells l).toArray)) w := by
  obtain ⟨b, off, rfl, _, hr⟩ := h.range (by rw [← h.len]; exact hn)
  have := run_loadAt_mid (P := P) w b off ty (bcells l) d hr hu hd (by simpa using hi)
  simp [execOp, ho, Act.eval, he, this]

def keyCells (o : Nat) (r s : List UInt8) : List Value := .int .u32 o :: (bcells r ++ bcells s)
theorem keyCells_one (o : Nat) (r s : List UInt8) : ∀ v ∈ (keyCells o r s).toArray.toList, v.oneCell' = true := by
  intro v hv
  simp only [keyCells, List.mem_cons, List.mem_append] at hv
  rcases hv with rfl | h | h
  · rfl
  · exact bcells_one _ v h
  · exact bcells_one _ v h
theorem run_key (o : Nat) (r s : List UInt8) (w : World) (hr : r.length = 32) (hs : s.length = 32) :
    (Instr.build 41 #[(0, .int .u32 o), (1, .agg (bcells r).toArray), (2, .agg (bcells s).toArray)]).run Try.prog w = .ok (.agg (keyCells o r s).toArray) w := by
  have hl : (flat [.int .u32 o, .agg (bcells r).toArray, .agg (bcells s).toArray]) = keyCells o r s := by simp [flat, keyCells, Value.cells]
  have hn : (keyCells o r s).length = 65 := by simp [keyCells, bcells_length, hr, hs]
  have := run_build_rows (P := Try.prog) w (t := 41) (z := Try.zeroCells41) #[(0, .int .u32 o), (1, .agg (bcells r).toArray), (2, .agg (bcells s).toArray)] [.int .u32 o, .agg (bcells r).toArray, .agg (bcells s).toArray] [(0, 1), (1, 32), (33, 32)]
    Try.underlying41 (by kernel_rfl) (by kernel_rfl) rfl (by simp [Rows1, Value.cells, bcells_length, hr, hs]) (by rw [hl, hn]; exact Nat.le_of_eq (by kernel_rfl))
  rw [hl, hn] at this
  rw [this]
  have e : (Try.zeroCells41).toList.drop 65 = [] := by kernel_rfl
  rw [e, List.append_nil]

def zeroNode0 : List UInt8 := List.replicate 32 0
def keyOk (l : List UInt8) : Bool := l.length == 68 && isKind (rdNum l 0 4 false)
def keyVal (l : List UInt8) : List Value := if keyOk l then keyCells (rdNum l 0 4 false) ((l.drop 4).take 32) (l.drop 36) else keyCells 0 zeroNode0 zeroNode0
def keyErr (l : List UInt8) : Int := if keyOk l then 0 else 80
theorem keyZero : Try.zeroCells41 = (keyCells 0 zeroNode0 zeroNode0).toArray := by kernel_rfl

set_option maxRecDepth 100000 in
set_option maxHeartbeats 1000000 in
theorem mKeyOf_len (A : Option Addr) (n c : Nat) (l : List UInt8) (w : World) (h : Rd w w.heap.size 1 A n (bcells l)) (hn : n ≤ 1000000) (hk : isKind (rdNum l 0 4 false) = true) (h68 : ¬ n = 68) :
    Calls Try.prog 22 #[.slice A n c] w fun e w' => e = .returned (.tuple #[.agg Try.zeroCells41, .int .i64 80]) ∧ Below w.heap.size w w' := by
  go_enter Try.func22, Try.ntmps22
  go_wp2_with fail
  have B1 : Below w.heap.size w (w.alloc (.cells Try.zeroCells41 41)) := (Below.refl _ w).alloc (Nat.le_refl _) _
  have h1 : Rd (w.alloc (.cells Try.zeroCells41 41)) (w.alloc (.cells Try.zeroCells41 41)).heap.size 1 A n (bcells l) := (h.alloc (Nat.le_refl _) _).more (by simp)
  have hb := Blk.new w 41 Try.zeroCells41
  generalize w.alloc (.cells Try.zeroCells41 41) = W at *
  refine (be32_any A n c 0 l W h1 (by omega)).mono ?_
  rintro e w' ⟨rfl, rfl⟩
  go_wp2_with fail
  refine (mHeight_any (rdNum l 0 4 false) W).mono ?_
  rintro e w' ⟨rfl, rfl⟩
  rw [hk]
  have hzl : Try.zeroCells41.size = 65 := by kernel_rfl
  go_wp2_with ((with_reducible refine at_store 41 ?_); refine wpList_storeAll W rfl 41 _ _ rfl w.heap.size 41 _ Try.zeroCells41 hb rfl rfl rfl (by rw [hzl]; kernel_rfl) (fun v hv => Array.all_eq_true_iff_forall_mem.1 keyOne v (by simpa using hv)) ?_; intro w3 hb3 hg3 hs3)
  all_goals
    refine bodyPost_ret (results_cell_tmp rfl _ _ w.heap.size _ _ _ _ rfl hb3 Try.underlying41 rfl (by rw [hzl]; kernel_rfl)) rfl ⟨rfl, ?_⟩
    exact grown_below B1 hg3 B1.size (Nat.le_refl _)

set_option maxRecDepth 100000 in
set_option maxHeartbeats 2000000 in
theorem mKeyOf_yes (A : Option Addr) (c : Nat) (l : List UInt8) (w : World) (h : Rd w w.heap.size 1 A 68 (bcells l)) (hc : 68 ≤ c) (hk : isKind (rdNum l 0 4 false) = true)
    (r s : List UInt8) (hr : r = (l.drop 4).take 32) (hs : s = l.drop 36) :
    Calls Try.prog 22 #[.slice A 68 c] w fun e w' => e = .returned (.tuple #[.agg (keyCells (rdNum l 0 4 false) r s).toArray, .int .i64 0]) ∧ Below w.heap.size w w' := by
  have hlen : 68 = l.length := by have := h.len; rw [bcells_length] at this; omega
  have rL : Hid (r.length = 32) := Lib.hid (by rw [hr]; simp; omega)
  have sL : Hid (s.length = 32) := Lib.hid (by rw [hs]; simp; omega)
  have HLEN := Lib.hid hlen
  have HR := Lib.hid hr
  have HS := Lib.hid hs
  clear hlen hr hs
  go_enter Try.func22, Try.ntmps22
  go_wp2_with fail
  have B1 : Below w.heap.size w (w.alloc (.cells Try.zeroCells41 41)) := (Below.refl _ w).alloc (Nat.le_refl _) _
  have h1 : Rd (w.alloc (.cells Try.zeroCells41 41)) (w.alloc (.cells Try.zeroCells41 41)).heap.size 1 A 68 (bcells l) := (h.alloc (Nat.le_refl _) _).more (by simp)
  have hb := Blk.new w 41 Try.zeroCells41
  have hsz : Hid ((w.alloc (.cells Try.zeroCells41 41)).heap.size = w.heap.size + 1) := Lib.hid (by simp)
  generalize w.alloc (.cells Try.zeroCells41 41) = W at *
  refine (be32_any A 68 c 0 l W h1 (by omega)).mono ?_
  rintro e w' ⟨rfl, rfl⟩
  go_wp2_with fail
  refine (mHeight_any (rdNum l 0 4 false) W).mono ?_
  rintro e w' ⟨rfl, rfl⟩
  rw [hk]
  have hcut : CutTo A (if c = 4 then A else A.map fun x => ⟨x.block, x.off + 4, none⟩) 68 4 := by
    split
    · rename_i e; exact cutTo_cap hc e
    · rename_i e; exact cutTo_on (by omega) hc e
  by_cases h4 : c = 4
  · omega
  rw [if_neg h4] at hcut
  have h2 := hcut _ _ _ h
  clear hcut
  go_wp2_with fail
  generalize Option.map (fun x : Addr => (⟨x.block, x.off + 4, none⟩ : Addr)) A = A0 at *
  refine (cutter_any A0 64 (c - 4) W).mono ?_
  rintro e W1 ⟨rfl, hx, hE1, hs1⟩
  go_wp2_with fail
  refine (cut_any W.heap.size A0 64 (c - 4) W1 hx (by omega) (by omega)).mono ?_
  rintro e W2 ⟨A1, hC1, rfl, hx2, hg2, hs2⟩
  go_wp2_with fail
  refine (cut_any W.heap.size A1 32 (c - 4 - 32) W2 hx2 (by omega) (by omega)).mono ?_
  rintro e W3 ⟨A2, hC2, rfl, hx3, hg3, hs3⟩
  go_wp2_with fail
  have hz := ((hb.ext hE1).grown hg2 (by simp; have := hsz.out; omega)).grown hg3 (by simp; have := hsz.out; omega)
  have B3 := grown_below (grown_below (B1.trans (hE1.below B1.size)) hg2 (by have := B1.size; omega) B1.size) hg3 (by have := B1.size; omega) B1.size
  have hr1 : Rd W3.drew w.heap.size 1 A0 32 (bcells r) := by
    have := (h2.front (k := 32) (by omega)).below B3
    rw [HR.out]
    simp only [bcells, List.map_take, List.map_drop, Nat.mul_one] at this ⊢
    exact this.drew
  have hr2 : Rd W3.drew w.heap.size 1 A1 32 (bcells s) := by
    have := (hC1 _ _ _ h2).below B3
    rw [HS.out]
    simp only [bcells, List.map_drop, List.drop_drop] at this ⊢
    exact this.drew
  clear hg2 hg3 hx hx2 hx3 hE1 hb h2 hC1 hC2 h1
  have B3' := B3.drew
  have hk65 : (keyCells (rdNum l 0 4 false) r s).toArray.size = 65 := by simp [keyCells, bcells_length, rL.out, sL.out]
  refine Flow.wp_region_flow (w.heap.size) [(8, fun b => b = w.heap.size)] [(8, fun W => Blk W w.heap.size 41 Try.zeroCells41)] (by kernel_rfl) (by kernel_rfl) B3'.size (Flow.nz_cons (by rintro b rfl; exact Nat.le_refl _) Flow.nz_nil) (Flow.facts_cons (hz.drew) (Flow.kept_blk id) (Flow.fz_cons (Flow.no_follow (by kernel_rfl)) Flow.fz_nil) Flow.facts_nil) ?_
  refine Flow.pass_old 4 (Flow.met_none rfl) (.inl rfl) (by kernel_rfl) (by kernel_rfl) rfl ?_
  refine Flow.pass_old 9 (Flow.met_none rfl) (.inl rfl) (by kernel_rfl) (by kernel_rfl) rfl ?_
  refine Flow.pass_val (.pointer A0) (Flow.met_none rfl) (fun a W hH => ?_) ?_
  · have e0 := Flow.see_new 37 1 hH.sees (by kernel_rfl) (by kernel_rfl) rfl rfl
    exact Flow.reg_array _ rfl e0 Try.underlying29 (Nat.le_refl _)
  refine Flow.pass_val (.agg (bcells (r)).toArray) (Flow.met_none rfl) (fun a W hH => ?_) ?_
  · have e0 := Flow.see_new 38 2 hH.sees (by kernel_rfl) (by kernel_rfl) rfl rfl
    exact reg_loadRd 29 _ rfl e0 (hr1.below hH.below) Try.underlying29 rfl (by rw [List.size_toArray, bcells_length, rL.out]; exact infNode) (by rw [bcells_length, rL.out]; omega)
  refine Flow.pass_old 10 (Flow.met_none rfl) (.inl rfl) (by kernel_rfl) (by kernel_rfl) rfl ?_
  refine Flow.pass_val (.pointer A1) (Flow.met_none rfl) (fun a W hH => ?_) ?_
  · have e0 := Flow.see_new 40 4 hH.sees (by kernel_rfl) (by kernel_rfl) rfl rfl
    exact Flow.reg_array _ rfl e0 Try.underlying29 (Nat.le_refl _)
  refine Flow.pass_val (.agg (bcells (s)).toArray) (Flow.met_none rfl) (fun a W hH => ?_) ?_
  · have e0 := Flow.see_new 41 5 hH.sees (by kernel_rfl) (by kernel_rfl) rfl rfl
    exact reg_loadRd 29 _ rfl e0 (hr2.below hH.below) Try.underlying29 rfl (by rw [List.size_toArray, bcells_length, sL.out]; exact infNode) (by rw [bcells_length, sL.out]; omega)
  refine Flow.pass_val (.agg (keyCells (rdNum l 0 4 false) r s).toArray) (Flow.met_none rfl) (fun a W hH => ?_) ?_
  · have e0 := Flow.see_new 36 0 hH.sees (by kernel_rfl) (by kernel_rfl) rfl rfl
    have e1 := Flow.see_new 39 3 hH.sees (by kernel_rfl) (by kernel_rfl) rfl rfl
    have e2 := Flow.see_new 42 6 hH.sees (by kernel_rfl) (by kernel_rfl) rfl rfl
    exact Flow.reg_build _ rfl (by simp [Act.eval, e0, e1, e2]) (run_key (rdNum l 0 4 false) r s _ rL.out sL.out)
  refine Flow.pass_list (fun _ W => Blk W w.heap.size 41 (keyCells (rdNum l 0 4 false) r s).toArray) (Flow.kept_of (fun _ _ _ c h => h.chg c id) (Flow.kz_cons (Flow.no_follow (by kernel_rfl)) Flow.kz_nil)) (Flow.met_none rfl) (fun a W hH => ?_) ?_
  · have e0 := Flow.see_old 2 hH.sees (by kernel_rfl) (by kernel_rfl) rfl
    have e1 := Flow.see_new 43 7 hH.sees (by kernel_rfl) (by kernel_rfl) rfl rfl
    have fa0 : (fun W => Blk W w.heap.size 41 Try.zeroCells41) W := hH.fact _ (List.mem_of_getElem? (i := 0) rfl) rfl
    refine wpList_storeAll W rfl 41 _ _ rfl w.heap.size 41 _ (keyCells (rdNum l 0 4 false) r s).toArray fa0 (by simpa [Act.eval] using e0) (by simpa [Act.eval] using e1) (by rw [hk65]; kernel_rfl) (by rw [hk65]; kernel_rfl) (keyCells_one _ r s) ?_
    intro W2 h2 hg _
    exact Flow.qq_nil ⟨_, rfl, Chg.grown hg (by rintro k h; cases h; rfl), h2⟩
  apply Flow.pass_val (hm := (Flow.met_none rfl))
  · intro a W hH
    go_simp; first | done | rfl
  refine Flow.pass_end [none, none, none, some 3, none, none, none, none, none, none, none, none, none, none, none, none, none, none, none, none, none, none, none, none, none, none, none, none, none, none, none, none, none, none, none, none, some 36, some 37, some 38, some 39, some 40, some 41, some 42, some 43] (by kernel_rfl) ?_
  intro f g w9 hB hfa hT hfg
  have hb9 := hT 8 _ (by kernel_rfl) rfl
  have h3 : f 3 = .int .i64 0 := (hfg 3 9 (by kernel_rfl)).trans (hT 9 _ (by kernel_rfl) rfl)
  simp only [Reg.sel, h3]
  clear hT hfg hfa
  go_wp2
  refine bodyPost_ret (results_cell_tmp rfl _ _ w.heap.size _ _ _ _ rfl hb9 Try.underlying41 rfl (by rw [hk65]; kernel_rfl)) rfl ⟨rfl, ?_⟩
  exact B3'.trans hB

theorem mKeyOf_any (A : Option Addr) (n c : Nat) (l : List UInt8) (w : World) (h : Rd w w.heap.size 1 A n (bcells l)) (hn : n ≤ 1000000) (hc : n ≤ c) :
    Calls Try.prog 22 #[.slice A n c] w fun e w' => e = .returned (.tuple #[.agg (keyVal l).toArray, .int .i64 (keyErr l)]) ∧ Below w.heap.size w w' := by
  have hlen : n = l.length := by have := h.len; rw [bcells_length] at this; omega
  cases hk : isKind (rdNum l 0 4 false) with
  | false =>
    have e : keyOk l = false := by simp [keyOk, hk]
    have := mKeyOf_none A n c l w h hn hk
    rw [keyZero] at this
    rw [keyVal, keyErr, e]
    exact this
  | true =>
    by_cases h68 : n = 68
    · have e : keyOk l = true := by simp [keyOk, hk, ← hlen, h68]
      subst h68
      rw [keyVal, keyErr, e]
      exact mKeyOf_yes A c l w h hc hk _ _ rfl rfl
    · have e : keyOk l = false := by simp [keyOk, ← hlen, h68]
      have := mKeyOf_len A n c l w h hn hk h68
      rw [keyZero] at this
      rw [keyVal, keyErr, e]
      exact this
end Go.Proofs.Ytnjfghlgknnhmaa
