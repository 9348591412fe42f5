/-
  Walks: report.Node and portreeveref29.Digits16: bytes to the base 16.
-/
import Derived.Test.YtnjfghlgknnhmaaWordD
import Derived.Test.YtnjfghlgknnhmaaLinesA
import Derived.Test.YtnjfghlgknnhmaaStore2
import Derived.Deep.Cut
import Derived.Test.YtnjfghlgknnhmaaEq
import Derived.Test.YtnjfghlgknnhmaaNum
namespace Go.Proofs.Ytnjfghlgknnhmaa
open Go.RowKit

/-- bytes to the base 16, two signs each -/
def hexL (l : List UInt8) : List UInt8 := l.flatMap fun b => [hexDig (b.toNat / 16), hexDig (b.toNat % 16)]
theorem hexL_snoc (l : List UInt8) (b : UInt8) : hexL (l ++ [b]) = hexL l ++ [hexDig (b.toNat / 16), hexDig (b.toNat % 16)] := by simp [hexL]
theorem hexL_length (l : List UInt8) : (hexL l).length = 2 * l.length := by
  induction l with
  | nil => rfl
  | cons a l ih => simp only [hexL, List.flatMap_cons, List.length_append, List.length_cons] at *; rw [ih]; simp; omega

theorem reg_storeInt {P : Program} {o : Oper} {a : Act} {w : World} {ty : TypeId} {x y : Tmp} (ho : o.op = .store ty (.tmp x) (.tmp y)) (hi : (P.info? ty).map (·.size) = some 1) {g off : Nat} {t : TypeId} {cs : Array Value} {k : IntKind} {z : Int} (hb : Blk w g t cs)
    (hx : a.tmps[x]?.getD undef = .pointer (some ⟨g, off, none⟩)) (hy : a.tmps[y]?.getD undef = .int k z) (hoff : off < cs.size) : (execOp a.eval o).run P w = .ok .skip (w.setCell ⟨g, off, none⟩ (.int k z)) := by
  have hc := hb.cell off
  rw [Array.getElem?_eq_getElem hoff] at hc
  have hf := hb.frozen off
  obtain ⟨i, hinf, hsz⟩ := Option.map_eq_some_iff.1 hi
  have hs : (sizeOf ty).run P w = .ok 1 w := by simp [sizeOf, typeInfo, hinf, hsz]
  simp [execOp, ho, Act.eval, hx, hy, Instr.storeAt, storeCells, Value.cells, hs, go_sem, hc, hf]
theorem wp_skip0 {P : Program} {o : Oper} {a : Act} {w w' : World} {K : Act → World → Prop} {Q : Exit → Act → World → Prop} (h : (execOp a.eval o).run P w = .ok .skip w') (hK : K (a.put o.dst undef) w') : Flow.OpWp P o a w K Q := by
  refine .inl ?_
  unfold Oper.wp
  rw [h]
  exact hK

theorem u8_and15 (a : Nat) (h : a < 256) : bits .and .u8 (a : Int) 15 = ((a % 16 : Nat) : Int) := by
  have := u8_and_nat a 15 h (by decide)
  rw [nat_mask4] at this; exact this
theorem size8 (W : World) : (sizeOf 5).run Try.prog W = .ok 1 W := by kernel_rfl
theorem nodeIndex (l : List UInt8) (h : l.length = 32) (k : Nat) (hk : k < l.length) (W : World) :
    (Instr.index 29 (.agg (bcells l).toArray) (.int .i64 (k : Int))).run Try.prog W = .ok (.int .u8 l[k].toNat) W := by
  have h1 : (0 : Int) ≤ k ∧ (k : Int) < ((32 : Nat) : Int) := by omega
  have h2 := run_part_byte W Try.underlying5 l k hk
  simp only [Instr.index, asIntOf, Sem.run_bind, Sem.run_pure, Result.andThen_ok, run_underlying Try.underlying29, if_pos h1, size8, Int.toNat_natCast, Nat.mul_one, h2]

theorem run_hexIdx (W : World) (d : Nat) (h : d < 16) : (Instr.index 9 (.string ⟨#[48, 49, 50, 51, 52, 53, 54, 55, 56, 57, 97, 98, 99, 100, 101, 102]⟩) (.int .u8 (d : Int))).run Try.prog W = .ok (.int .u8 (hexDig d).toNat) W := by
  rw [run_index_string (h := Try.underlying9), dif_pos ⟨by omega, by simp [ByteArray.size]; omega⟩]
  simp only [Int.toNat_natCast, hexD' d h]

theorem run_hexIdxZ (W : World) (z : Int) (d : Nat) (h : d < 16) (hz : Hid (z = d)) : (Instr.index 9 (.string ⟨#[48, 49, 50, 51, 52, 53, 54, 55, 56, 57, 97, 98, 99, 100, 101, 102]⟩) (.int .u8 z)).run Try.prog W = .ok (.int .u8 (hexDig d).toNat) W := by
  rw [hz.out]; exact run_hexIdx W d h

theorem two_set (cs : Array Value) (p : List Value) (n : Nat) (hp : p.length = n) (hs : n + 2 ≤ cs.size) (h : ∃ rest, cs.toList = p ++ rest) (u v : Value) :
    ∃ rest, ((cs.setIfInBounds n u).setIfInBounds (n + 1) v).toList = (p ++ [u, v]) ++ rest := by
  obtain ⟨rest, h⟩ := h
  have hl := congrArg List.length h
  simp at hl
  match rest, h, hl with
  | [], _, hl => simp at hl; omega
  | [_], _, hl => simp at hl; omega
  | a :: b :: r, h, hl =>
    refine ⟨r, ?_⟩
    simp only [Array.toList_setIfInBounds, h]
    rw [List.set_append_right _ _ (by omega), List.set_append_right _ _ (by omega), hp]
    simp [show n + 1 - n = 1 by omega]

/-- the law of the loop: the first k bytes are written -/
def NLoop (w : World) (l : List UInt8) (i : Value) (wr : World) : Prop :=
  ∃ k : Nat, k ≤ 32 ∧ i = .int .i64 k ∧ ∃ cs : Array Value, Hid (cs.size = 64) ∧ Hid (∃ rest, cs.toList = bcells (hexL (l.take k)) ++ rest) ∧ Blk wr (w.heap.size + 1) 135 cs ∧ Below w.heap.size w wr

set_option maxRecDepth 100000 in
set_option maxHeartbeats 2000000 in
theorem mNode_any (l : List UInt8) (hl : Hid (l.length = 32)) (w : World) :
    Calls Try.prog 43 #[.agg (bcells l).toArray] w fun e w' => e = .returned (.string ⟨(hexL l).toArray⟩) ∧ Below w.heap.size w w' := by
  obtain ⟨H, hH0⟩ : ∃ H, H = hexL l := ⟨_, rfl⟩
  rw [← hH0]
  have HH := Lib.hid hH0
  clear hH0
  go_enter Try.func43, Try.ntmps43
  go_wp2_with ((with_reducible refine at_load 29 ?_); refine wpList_loadAll _ rfl 29 _ rfl w.heap.size 29 (bcells l).toArray ((Blk.new w _ _).alloc _) _ rfl Try.underlying29 rfl (by rw [List.size_toArray, bcells_length, hl.out]; kernel_rfl) ?_)
  go_loopw [7] (fun i wr => NLoop w l i wr) (fun i _ => 32 - (intOf i).toNat)
  case atStart => exact ⟨0, Nat.zero_le _, rfl, _, Lib.hid rfl, Lib.hid ⟨_, rfl⟩, new1 _ _ _ _, ((Below.refl _ _).alloc (Nat.le_refl _) _).alloc (by rw [size_alloc1]; omega) _⟩
  case round =>
    obtain ⟨k, hk, rfl, cs, hcs, hpre, hb, hB⟩ := hrel
    by_cases hk32 : k < 32
    · have hkl : k < l.length := by rw [hl.out]; exact hk32
      obtain ⟨c, hc⟩ : ∃ c, c = l[k] := ⟨_, rfl⟩
      have hidx := nodeIndex l hl.out k hkl
      rw [← hc] at hidx
      have Hc := Lib.hid hc
      obtain ⟨b, hb8⟩ : ∃ b, b = c.toNat := ⟨_, rfl⟩
      have hc256 : b < 256 := by rw [hb8]; exact c.toNat_lt
      rw [← hb8] at hidx
      have Hb := Lib.hid hb8
      clear hc hb8
      go_upto_region 5 with (fail)
      have hsz : w.heap.size + 1 ≤ wr.drew.heap.size := Nat.le_of_lt hb.lt
      have hand := u8_and15 b hc256
      have hq1 : Hid ((b : Int) / 16 = ((b / 16 : Nat) : Int)) := Lib.hid (by omega)
      have hq2 : Hid ((b : Int) % 16 = ((b % 16 : Nat) : Int)) := Lib.hid (by omega)
      have hr1 : ∀ W, _ := fun W => run_hexIdxZ W _ (b / 16) (by omega) hq1
      have hr2 : ∀ W, _ := fun W => run_hexIdxZ W _ (b % 16) (by omega) hq2
      have hw2 : IntKind.i64.wrap (2 * (k : Int)) = 2 * (k : Int) := IntWalk.i64_in _ (by omega)
      have hw3 : IntKind.i64.wrap (2 * (k : Int) + 1) = 2 * (k : Int) + 1 := IntWalk.i64_in _ (by omega)
      refine Flow.wp_region_flow (w.heap.size + 1) [(12, fun b => b = w.heap.size + 1), (14, fun b => b = w.heap.size + 1)] [(12, fun W => Blk W (w.heap.size + 1) 135 cs)] (by kernel_rfl) (by kernel_rfl) hsz (Flow.nz_cons (by rintro b rfl; exact Nat.le_refl _) (Flow.nz_cons (by rintro b rfl; exact Nat.le_refl _) Flow.nz_nil)) (Flow.facts_cons (hb.drew) (Flow.kept_blk id) (Flow.fz_cons (Flow.no_follow (by kernel_rfl)) (Flow.fz_cons (Flow.no_follow (by kernel_rfl)) Flow.fz_nil)) Flow.facts_nil) ?_
      refine Flow.pass_old 4 (Flow.met_none rfl) (.inl rfl) (by kernel_rfl) (by kernel_rfl) rfl ?_
      refine Flow.pass_val (.int .i64 (2 * (k : Int))) (Flow.met_none rfl) (fun a W hH => ?_) ?_
      · have e0 := Flow.see_new 11 0 hH.sees (by kernel_rfl) (by kernel_rfl) rfl rfl
        go_simp; first | done | exact hw2
      refine Flow.pass_old 4 (Flow.met_none rfl) (.inl rfl) (by kernel_rfl) (by kernel_rfl) rfl ?_
      refine Flow.pass_val (.int .i64 (2 * (k : Int))) (Flow.met_none rfl) (fun a W hH => ?_) ?_
      · have e0 := Flow.see_new 13 2 hH.sees (by kernel_rfl) (by kernel_rfl) rfl rfl
        go_simp; first | done | exact hw2
      refine Flow.pass_val (.int .i64 (2 * (k : Int) + 1)) (Flow.met_none rfl) (fun a W hH => ?_) ?_
      · have e0 := Flow.see_new 14 3 hH.sees (by kernel_rfl) (by kernel_rfl) rfl rfl
        go_simp; first | done | exact hw3
      refine Flow.pass_old 5 (Flow.met_none rfl) (.inl rfl) (by kernel_rfl) (by kernel_rfl) rfl ?_
      apply Flow.pass_val (hm := (Flow.met_none rfl))
      · intro a W hH
        have e0 := Flow.see_new 16 5 hH.sees (by kernel_rfl) (by kernel_rfl) rfl rfl
        go_simp; first | done | rfl
      refine Flow.pass_val (.int .u8 (hexDig (b / 16)).toNat) (Flow.met_none rfl) (fun a W hH => ?_) ?_
      · have e0 := Flow.see_new 17 6 hH.sees (by kernel_rfl) (by kernel_rfl) rfl rfl
        simp [execOp, Act.eval, e0, hr1]
      refine Flow.pass_old 5 (Flow.met_none rfl) (.inl rfl) (by kernel_rfl) (by kernel_rfl) rfl ?_
      apply Flow.pass_val (hm := (Flow.met_none rfl))
      · intro a W hH
        have e0 := Flow.see_new 19 8 hH.sees (by kernel_rfl) (by kernel_rfl) rfl rfl
        go_simp; first | done | rfl
      refine Flow.pass_val (.int .u8 (hexDig (b % 16)).toNat) (Flow.met_none rfl) (fun a W hH => ?_) ?_
      · have e0 := Flow.see_new 20 9 hH.sees (by kernel_rfl) (by kernel_rfl) rfl rfl
        simp [execOp, Act.eval, e0, hr2]
      refine Flow.pass_val (.pointer (some ⟨w.heap.size + 1, 2 * k, none⟩)) (Flow.met_none rfl) (fun a W hH => ?_) ?_
      · have e0 := Flow.see_old 3 hH.sees (by kernel_rfl) (by kernel_rfl) rfl
        have e1 := Flow.see_new 12 1 hH.sees (by kernel_rfl) (by kernel_rfl) rfl rfl
        go_simp; rw [if_pos (by omega), show (2 * (k : Int)).toNat = 2 * k by omega]
      refine Flow.pass_lin [14] (fun _ W => Blk W (w.heap.size + 1) 135 (cs.setIfInBounds (2 * k) (.int .u8 (hexDig (b / 16)).toNat))) (Flow.kept_lin [14] (fun _ _ _ c h => h.chg c id) (Flow.lz_cons (Flow.no_follow (by kernel_rfl)) (Flow.lz_cons (fun _ => .inl rfl) Flow.lz_nil))) (Flow.met_none rfl) (fun a W hH => ?_) ?_
      · have e0 := Flow.see_new 22 11 hH.sees (by kernel_rfl) (by kernel_rfl) rfl rfl
        have e1 := Flow.see_new 18 7 hH.sees (by kernel_rfl) (by kernel_rfl) rfl rfl
        have fa0 : (fun W => Blk W (w.heap.size + 1) 135 cs) W := hH.fact _ (List.mem_of_getElem? (i := 0) rfl) rfl
        refine wp_skip0 (reg_storeInt rfl (by kernel_rfl) fa0 e0 e1 (by rw [hcs.out]; omega)) ?_
        exact ⟨_, rfl, Chg.grown (grown_setL _ _ _ _) (by rintro j h; cases h; rfl), fa0.set_ _ _⟩
      refine Flow.pass_val (.pointer (some ⟨w.heap.size + 1, 2 * k + 1, none⟩)) (Flow.met_none rfl) (fun a W hH => ?_) ?_
      · have e0 := Flow.see_old 3 hH.sees (by kernel_rfl) (by kernel_rfl) rfl
        have e1 := Flow.see_new 15 4 hH.sees (by kernel_rfl) (by kernel_rfl) rfl rfl
        go_simp; rw [if_pos (by omega), show (2 * (k : Int) + 1).toNat = 2 * k + 1 by omega]
      refine Flow.pass_gen (fun _ W => Blk W (w.heap.size + 1) 135 ((cs.setIfInBounds (2 * k) (.int .u8 (hexDig (b / 16)).toNat)).setIfInBounds (2 * k + 1) (.int .u8 (hexDig (b % 16)).toNat))) (Flow.kept_of (fun _ _ _ c h => h.chg c id) (Flow.kz_cons (Flow.no_follow (by kernel_rfl)) (Flow.kz_cons (Flow.no_follow (by kernel_rfl)) Flow.kz_nil))) (Flow.met_none rfl) (fun a W hH => ?_) ?_
      · have e0 := Flow.see_new 23 13 hH.sees (by kernel_rfl) (by kernel_rfl) rfl rfl
        have e1 := Flow.see_new 21 10 hH.sees (by kernel_rfl) (by kernel_rfl) rfl rfl
        obtain ⟨_, hP⟩ := Flow.past_lin 12 hH.past (by kernel_rfl) (by kernel_rfl) rfl (by kernel_rfl)
        refine wp_skip0 (reg_storeInt rfl (by kernel_rfl) hP e0 e1 (by rw [Array.size_setIfInBounds, hcs.out]; omega)) ?_
        exact ⟨_, rfl, Chg.grown (grown_setL _ _ _ _) (by rintro j h; cases h; rfl), hP.set_ _ _⟩
      refine Flow.pass_end [none, none, none, none, none, none, none, none, none, none, none, some 11, some 12, some 13, some 14, some 15, some 16, some 17, some 18, some 19, some 20, some 21, some 22, some 23, none, none, none] (by kernel_rfl) ?_
      have hB' := hB
      clear hB
      intro f gg w9 hB hfa hT hfg
      have h14 := hT 14 _ (by kernel_rfl) rfl
      have B9 := hB'.drew.trans (hB.mono (Nat.le_succ _))
      clear hfa hT hfg hB hr1 hr2 hidx hb hB'
      simp only [Reg.sel]
      go_wp2
      go_roundw
      case rel =>
        refine ⟨k + 1, by omega, by go_num, _, Lib.hid (by rw [Array.size_setIfInBounds, Array.size_setIfInBounds]; exact hcs.out), Lib.hid ?_, h14, B9⟩
        have := two_set cs _ (2 * k) (by rw [bcells_length, hexL_length, List.length_take, Nat.min_eq_left (by omega)]) (by rw [hcs.out]; omega) hpre.out (.int .u8 (hexDig (b / 16)).toNat) (.int .u8 (hexDig (b % 16)).toNat)
        rw [List.take_succ_eq_append_getElem hkl, hexL_snoc, bcells_append, ← Hc.out, ← Hb.out]
        exact this
      case measure => simp [intOf]; omega
    · have hke : k = 32 := by omega
      subst hke
      obtain ⟨rest, hr⟩ := hpre.out
      have hrest : rest = [] := by
        have := congrArg List.length hr
        simp only [Array.length_toList, List.length_append, bcells_length, hexL_length, List.length_take, hl.out, hcs.out] at this
        exact List.eq_nil_of_length_eq_zero (by omega)
      have hcs2 : cs = (bcells H).toArray := by
        apply Array.toList_inj.1
        rw [hr, hrest, List.append_nil, List.take_of_length_le (by rw [hl.out]; exact Nat.le_refl _), HH.out]
      subst hcs2
      have hrd := hb.rd (size := 1) (n := 64) (by rw [List.size_toArray, bcells_length, HH.out, hexL_length, hl.out])
      go_wp2_with ((with_reducible refine at_conv ?_); refine wpList_str _ Try.underlying27 Try.underlying5 Try.underlying9 rfl _ rfl (some ⟨w.heap.size + 1, 0, none⟩) 64 64 H rfl (by simpa using hrd) ?_)
      go_ret
      exact ⟨rfl, hB⟩
end Go.Proofs.Ytnjfghlgknnhmaa
