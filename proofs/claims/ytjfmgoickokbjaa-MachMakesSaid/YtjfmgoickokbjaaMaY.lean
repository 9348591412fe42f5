/-
  Walk: the reference's NewMem.
-/
import Derived.Test.YtjfmgoickokbjaaMaX
namespace Go.Proofs.Ytjfmgoickokbjaa
open Go.RowKit

theorem RMem.keep {w w' : World} {r : Nat} {ram : Sp} {m : Mm} {F : Nat → Prop} {N : Nat} (h : RMem w r ram m F N) (hs : w.heap.size ≤ w'.heap.size) (hb : ∀ b, F b → b < w.heap.size → w'.heap[b]? = w.heap[b]?) : RMem w' r ram m F N := by
  obtain ⟨ps, A, c, h1, h2⟩ := h
  exact ⟨ps, A, c, h1.keep hs fun b hF => hb b hF (h1.flt b hF), h2⟩
theorem RMem.more {w : World} {r : Nat} {ram : Sp} {m : Mm} {F : Nat → Prop} {N N' : Nat} (h : RMem w r ram m F N) (hN : N ≤ N') : RMem w r ram m F N' := by
  obtain ⟨ps, A, c, h1, h2⟩ := h
  exact ⟨ps, A, c, h1, Nat.le_trans h2 hN⟩
theorem RMem.flt {w : World} {r : Nat} {ram : Sp} {m : Mm} {F : Nat → Prop} {N : Nat} (h : RMem w r ram m F N) : ∀ b, F b → b < w.heap.size := by
  obtain ⟨ps, A, c, h1, h2⟩ := h
  exact h1.flt
theorem RMem.below {w w' : World} {r : Nat} {ram : Sp} {m : Mm} {F : Nat → Prop} {N : Nat} (h : RMem w r ram m F N) {n : Nat} (c : Below n w w') (hn : w.heap.size ≤ n) : RMem w' r ram m F N :=
  h.keep c.size fun b _ hlt => c.block b (Nat.lt_of_lt_of_le hlt hn)
theorem RAfter.from {w w1 w2 : World} {p : Nat} {ram : Sp} {m : Mm} {F : Nat → Prop} {N : Nat} (hB : Below w.heap.size w w1) (h : RAfter w1 w2 p ram m F N) : RAfter w w2 p ram m F N := by
  obtain ⟨F', h1, h2, h3, h4⟩ := h
  exact ⟨F', h1, ⟨h2.os.trans hB.os, h2.tape.trans hB.tape, h2.output.trans hB.output, Nat.le_trans hB.size h2.size, fun k hk hnF => (h2.block k (Nat.lt_of_lt_of_le hk hB.size) hnF).trans (hB.block k hk)⟩, h3, fun b hb => by
    rcases h4 b hb with h5 | h5
    · exact .inl h5
    · exact .inr (Nat.le_trans hB.size h5)⟩
theorem RAfter.same {w w1 : World} {p : Nat} {ram : Sp} {m : Mm} {F : Nat → Prop} {N : Nat} (hB : Below w.heap.size w w1) (h : RMem w p ram m F N) : RAfter w w1 p ram m F N :=
  ⟨F, h.below hB (Nat.le_refl _), Chg.of_ext hB, fun _ h => h, fun _ h => .inl h⟩
theorem RAfter.more {w w1 : World} {p : Nat} {ram : Sp} {m : Mm} {F : Nat → Prop} {N N' : Nat} (h : RAfter w w1 p ram m F N) (hN : N ≤ N') : RAfter w w1 p ram m F N' := by
  obtain ⟨F', h1, h2, h3, h4⟩ := h
  exact ⟨F', h1.more hN, h2, h3, h4⟩
theorem run_rmem (w : World) (ram : Sp) : (Instr.build 95 #[(0, .agg ram.cells)]).run Try.prog w = .ok (.agg #[.int .u64 (ram.base : Int), .int .u64 (ram.size : Int), .slice none 0 0]) w := by
  have hl : (flat [.agg ram.cells]) = [.int .u64 (ram.base : Int), .int .u64 (ram.size : Int)] := by simp [flat, Value.cells, Sp.cells]
  have := run_build_rows (P := Try.prog) w (t := 95) (z := #[.int .u64 0, .int .u64 0, .slice none 0 0]) #[(0, .agg ram.cells)] [.agg ram.cells] [(0, 2), (2, 1)]
    Try.underlying95 (by kernel_rfl) (by kernel_rfl) rfl (by simp [Rows1, Value.cells, Sp.cells]) (by rw [hl]; simp)
  rw [hl] at this
  exact this
theorem rm_new (w W : World) (ram : Sp) (p : Nat) (hb : Blk W p 95 #[.int .u64 (ram.base : Int), .int .u64 (ram.size : Int), .slice none 0 0]) (hp : w.heap.size ≤ p) :
    ∃ F, RMem W p ram zeroM F 0 ∧ ∀ b, F b → w.heap.size ≤ b :=
  ⟨fun b => b = p, ⟨[], none, 0, ⟨hb, World.ownsRow_nil _ _ _ _, fun b h => (by cases h), fun x hx => (by cases hx), fun _ _ _ _ => rfl, List.Pairwise.nil, rfl, by
    rintro b rfl
    exact hb.lt⟩, Nat.le_refl _⟩, by
    rintro b rfl
    exact hp⟩
def RNewRet (w : World) (ram : Sp) (J : List Ck) (N : Nat) (e : Ending) (w' : World) : Prop :=
  Below w.heap.size w w' ∧ ((newErr ram J ≠ 0 ∧ e = .returned (.tuple #[.pointer none, .int .i64 (newErr ram J)])) ∨
    (newErr ram J = 0 ∧ ∃ p F, e = .returned (.tuple #[.pointer (some ⟨p, 0, none⟩), .int .i64 0]) ∧ RMem w' p ram (newM ram J) F N ∧ ∀ b, F b → w.heap.size ≤ b))

set_option maxRecDepth 100000 in
set_option maxHeartbeats 2000000 in
theorem rnew_any (ram : Sp) (okr : ram.ok) (A : Option Addr) (n c : Nat) (J : List Ck) (hJ : ∀ k ∈ J, k.l.length ≤ 5000) (hn10 : n ≤ 10) (w : World) (hR : Rd w w.heap.size 2 A n (ccells J)) (hok : ∀ k ∈ J, k.ok w w.heap.size) :
    Calls Try.prog 26 #[.agg ram.cells, .slice A n c] w (RNewRet w ram J (n * 5000)) := by
  have hb := Blk.new w 24 ram.cells
  have B1 : Below w.heap.size w (w.alloc (.cells ram.cells 24)) := (Below.refl _ _).alloc (Nat.le_refl _) _
  have hJn : n = J.length := by have := hR.len; rw [ccells_length] at this; omega
  have HJN := Lib.hid hJn
  have HJ := Lib.hid hJ
  have HOK := Lib.hid hok
  clear hJn hJ hok
  go_enter Try.func26, Try.ntmps26
  go_wp2_with ((with_reducible refine at_load 24 ?_); refine wpList_loadAllW _ rfl 24 _ rfl w.heap.size 24 ram.cells hb _ rfl Try.underlying24 rfl infSpan ?_)
  generalize w.alloc (.cells ram.cells 24) = W1 at *
  have hpg := rpages_any ram okr W1
  refine hpg.mono ?_
  rintro e W2 ⟨rfl, hB2⟩
  have hb2 := hb.below hB2 hb.lt
  have B2 := B1.trans (hB2.mono B1.size)
  clear hpg hb B1 hB2
  cases hp : ram.pages with
  | false =>
    have he : Hid (newErr ram J = 1) := Lib.hid (by rw [newErr, ramOk, hp]; rfl)
    clear hp
    go_wp2
    go_ret2
    exact ⟨B2, .inl ⟨by rw [he.out]; decide, by rw [he.out]; rfl⟩⟩
  | true =>
    go_wp2_with ((with_reducible refine at_load 24 ?_); refine wpList_loadAllW _ rfl 24 _ rfl w.heap.size 24 ram.cells hb2 _ rfl Try.underlying24 rfl infSpan ?_)
    refine (rlast_any ram okr W2).mono ?_
    rintro e W3 ⟨rfl, hB3⟩
    obtain ⟨L, hL⟩ : ∃ L, L = ram.last := ⟨_, rfl⟩
    rw [← hL]
    have hb3 := hb2.below hB3 hb2.lt
    have B3 := B2.trans (hB3.mono B2.size)
    clear hb2 B2 hB3
    by_cases hge : 1099511627776 ≤ L
    · have hd : decide ((1099511627776 : Int) ≤ (L : Int)) = true := decide_eq_true (by omega)
      have he : Hid (newErr ram J = 1) := Lib.hid (by rw [newErr, ramOk, hp, decide_eq_false (by omega)]; rfl)
      clear hge hp hL
      go_wp2
      go_ret2
      exact ⟨B3, .inl ⟨by rw [he.out]; decide, by rw [he.out]; rfl⟩⟩
    · have hd : decide ((1099511627776 : Int) ≤ (L : Int)) = false := decide_eq_false (by omega)
      have hrk : ramOk ram = true := by rw [ramOk, hp, decide_eq_true (by omega)]; rfl
      have hr40 := ramOk_40 hrk
      have he : Hid (newErr ram J = (fillM ram J zeroM).1) := Lib.hid (by rw [newErr, if_pos hrk])
      clear hge hp hL hrk
      go_wp2_with (first
        | ((with_reducible refine at_load 24 ?_); refine wpList_loadAllW _ rfl 24 _ rfl w.heap.size 24 ram.cells hb3 _ rfl Try.underlying24 rfl infSpan ?_)
        | ((with_reducible refine at_build 95 ?_); refine wpList_buildV _ rfl #[(0, .agg ram.cells)] rfl (by simp [Act.eval, Act.put]) (run_rmem _ ram) ?_))
      have hbp := Blk.new W3 95 #[.int .u64 (ram.base : Int), .int .u64 (ram.size : Int), .slice none 0 0]
      obtain ⟨F0, hP0, hF0⟩ := rm_new w _ ram W3.heap.size hbp B3.size
      have B4 := B3.alloc B3.size (.cells #[.int .u64 (ram.base : Int), .int .u64 (ram.size : Int), .slice none 0 0] 95)
      generalize W3.alloc (.cells #[.int .u64 (ram.base : Int), .int .u64 (ram.size : Int), .slice none 0 0] 95) = W4 at *
      generalize W3.heap.size = p at *
      clear hbp hb3 B3
      have hz := zeroCk
      go_loopw [23] (fun v wr => ∃ k : Nat, k ≤ n ∧ v = .int .i64 k ∧ Below w.heap.size w wr ∧ Hid ((fillM ram (J.take k) zeroM).1 = 0) ∧ ∃ F, RMem wr p ram (fillM ram (J.take k) zeroM).2 F (k * 5000) ∧ ∀ b, F b → w.heap.size ≤ b) (fun v _ => n - (intOf v).toNat)
      case atStart => exact ⟨0, Nat.zero_le _, rfl, B4, Lib.hid rfl, F0, hP0, hF0⟩
      case round =>
        obtain ⟨k, hk, rfl, hB, hf0, F, hP, hF⟩ := hrel
        by_cases hlt : k < n
        · obtain ⟨x, hx⟩ : ∃ x, J[k]? = some x := ⟨_, List.getElem?_eq_getElem (by rw [← HJN.out]; exact hlt)⟩
          have hxo := HOK.out x (List.mem_of_getElem? hx)
          have hxl := HJ.out x (List.mem_of_getElem? hx)
          have hxa := hxo.at_
          have hxn := hxo.len
          have HXN := Lib.hid hxn
          have hRx := hxo.rd
          have hxc := hxo.cap
          have hxn5 : x.n ≤ 5000 := by omega
          have hsn := fillM_snoc ram x (J.take k) zeroM hf0.out
          have htk : J.take (k + 1) = J.take k ++ [x] := by rw [List.take_add_one, hx]; rfl
          rw [← htk] at hsn
          have HSN := Lib.hid hsn
          have HBAD : Hid ((fillM ram (J.take (k + 1)) zeroM).1 ≠ 0 → newErr ram J = (fillM ram (J.take (k + 1)) zeroM).1) := Lib.hid (fun h => by
            have h1 := fillM_bad ram (J.take (k + 1)) (J.drop (k + 1)) zeroM h
            rw [List.take_append_drop] at h1
            rw [he.out, h1])
          obtain ⟨ba, bo, rfl, _, _⟩ := hR.range (by omega)
          have hrng := rd_chunk (hR.below hB) k x hx
          have hC := fun W F' h1 h2 h3 h4 => rwrite_any p ram okr hr40 (fillM ram (J.take k) zeroM).2 F' (k * 5000) x.at_ x.A x.n x.c x.l hxa HXN.out hxc.1 hxc.2 h1 W h2 h3 h4
          obtain ⟨M, hM⟩ : ∃ M, M = (fillM ram (J.take k) zeroM).2 := ⟨_, rfl⟩
          rw [← hM] at hP hC
          have HM := Lib.hid hM
          have hcz := Blk.new wr 78 #[.int .u64 0, .slice none 0 0]
          clear hxn hsn htk hM hx hxo
          go_wp2_with (first
            | ((with_reducible refine at_load 78 ?_); refine wpList_load_mid rfl 78 _ rfl ba (bo + k * 2) rfl x.cells _ hrng Try.underlying78 rfl infCk ?_)
            | ((with_reducible refine at_store 78 ?_); refine wpList_storeAll _ rfl 78 _ _ rfl wr.heap.size 78 _ x.cells.toArray hcz rfl rfl rfl infCk (by intro v hv; simp only [Ck.cells, List.mem_cons, List.not_mem_nil, or_false] at hv; rcases hv with rfl | rfl <;> rfl) ?_; intro w3 hb3 hg3 hs3; have cc0 : w3.cell? ⟨wr.heap.size, 0, none⟩ = some (.int .u64 (x.at_ : Int)) := (hb3.cell 0).trans rfl; have cc1 : w3.cell? ⟨wr.heap.size, 1, none⟩ = some (.slice x.A x.n x.c) := (hb3.cell 1).trans rfl))
          have hB3 := grown_below (hB.alloc hB.size (.cells #[.int .u64 0, .slice none 0 0] 78)) hg3 (by simp; have := hB.size; omega) hB.size
          have hP3 : RMem w3 p ram M F (k * 5000) := hP.keep (by rw [hs3]; simp) (fun b hb hlb => (hg3.block b (by simp; omega) (fun e => by cases e; exact Nat.lt_irrefl _ hlb)).trans (Below.heap_alloc wr _ b hlb))
          have hcall := hC w3 F (by omega) ((hRx.below hB3).more hB3.size) (fun h0 y hy hFy => by
            obtain ⟨b, off, e, h1, _⟩ := hRx.range (by omega)
            rw [hy] at e
            cases e
            exact absurd (hF _ hFy) (Nat.not_le.2 h1)) hP3
          clear hC hP hcz hg3 hs3 cc0 cc1 hb3 hRx hrng hB
          refine hcall.mono ?_
          rintro e w5 ⟨rfl, F5, hP5, hC5, h51, h52⟩
          have B5 := hB3.trans (hC5.below hF hB3.size)
          have hF5 : ∀ b, F5 b → w.heap.size ≤ b := fun b hb => by
            rcases h52 b hb with h6 | h6
            · exact hF b h6
            · exact Nat.le_trans hB3.size h6
          obtain ⟨E, hE⟩ : ∃ E, E = askErr ram x.at_ x.n := ⟨_, rfl⟩
          rw [← hE]
          clear hcall hB3 hP3 hC5 h51 h52
          by_cases h0 : E = 0
          · have hq : askErr ram x.at_ x.l.length = 0 := by rw [← HXN.out, ← hE]; exact h0
            have hV : Hid ((fillM ram (J.take (k + 1)) zeroM).1 = 0 ∧ (fillM ram (J.take (k + 1)) zeroM).2 = writeV ram M x.at_ x.l) := Lib.hid (by rw [HSN.out, if_pos hq, writeV, if_pos hq, HM.out]; exact ⟨rfl, rfl⟩)
            clear hE hq HBAD HSN
            subst h0
            go_wp2
            go_roundw
            case rel => exact ⟨k + 1, by omega, by go_num, B5, Lib.hid hV.out.1, F5, by rw [hV.out.2]; exact hP5.more (by omega), hF5⟩
            case measure => simp [intOf]; omega
          · have hq : ¬ askErr ram x.at_ x.l.length = 0 := by rw [← HXN.out, ← hE]; exact h0
            have hV : Hid (newErr ram J = E) := Lib.hid (by
              have h1 : (fillM ram (J.take (k + 1)) zeroM).1 = E := by rw [HSN.out, if_neg hq, ← HXN.out, ← hE]
              rw [HBAD.out (by rw [h1]; exact h0), h1])
            have H0 := Lib.hid h0
            have hne : (E != 0) = true := by simpa using h0
            clear hE hq HBAD HSN h0
            go_wp2
            go_ret2
            exact ⟨B5, .inl ⟨by rw [hV.out]; exact H0.out, by rw [hV.out]; rfl⟩⟩
        · obtain rfl : k = n := by omega
          have hJall : J.take k = J := List.take_of_length_le (by rw [HJN.out]; exact Nat.le_refl _)
          rw [hJall] at hP hf0
          go_wp2
          go_ret2
          exact ⟨hB, .inr ⟨by rw [he.out]; exact hf0.out, p, F, rfl, hP, hF⟩⟩
end Go.Proofs.Ytjfmgoickokbjaa
