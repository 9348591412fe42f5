/-
  Walk: sha's state.write: bytes taken in.
-/
import Derived.Test.YtapkhafgfbhkkaaDoorShaF
namespace Go.Proofs.YtapkhafgfbhkkaaDoor
open Go.RowKit Sha

section
variable {P : Program} {ops : Array Oper} {rest : List Oper} {a : Act} {w : World} {Q : Exit → Act → World → Prop} {dst : Option Tmp} {ty : TypeId} {pos : String} {aft : Array Edge} {gd : Option (Nat × Bool)}
theorem at_slice (t : TypeId) {x : Operand} {lo hi mx : Option Operand} (h : wpList P ops Q (⟨dst, .slice t x lo hi mx, ty, pos, aft, gd⟩ :: rest) a w) : wpList P ops Q (⟨dst, .slice t x lo hi mx, ty, pos, aft, gd⟩ :: rest) a w := h
end

set_option maxRecDepth 100000 in
set_option maxHeartbeats 4000000 in
theorem write_any (G : Nat) (A : Option Addr) (n c : Nat) (b L : List UInt8) (w : World) (hS : ShaSt G L w) (hF : FarB G w A n b) (hnc : n ≤ c) (hc : c ≤ 9223372036854775807) (hLn : L.length + n ≤ 1000000000)
    {tK : TypeId} (hK : Blk w 1 tK (wcells kTab).toArray) (hG1 : G ≠ 1) :
    Calls Tryd.prog 60 #[.pointer (some ⟨G, 0, none⟩), .slice A n c] w fun e w' => e = .returned (.tuple #[]) ∧ ShaSt G (L ++ b) w' ∧ Chg (fun k => k = G) w w' := by
  obtain ⟨sm, hsm', hrest, hb⟩ := hS
  have hbl : b.length = n := by have := hF.rd.len; rw [bcells_length] at this; omega
  obtain ⟨N, hN⟩ : ∃ N, N = L.length := ⟨_, rfl⟩
  obtain ⟨T, hT⟩ : ∃ T, T = N + n := ⟨_, rfl⟩
  obtain ⟨LL, hLL⟩ : ∃ LL, LL = L ++ b := ⟨_, rfl⟩
  have HLL := Lib.hid hLL.symm
  have HT : Hid (LL.length = T) := Lib.hid (by rw [hLL, List.length_append, hbl, hT, hN])
  have HGK : Hid (¬ (1 = G)) := Lib.hid (fun e => hG1 e.symm)
  have HGK' := Lib.hid hG1
  have HK := Lib.hid hK
  rw [← hN] at hb hrest hLn
  have hr64 : N % 64 < 64 := Nat.mod_lt _ (by omega)
  have hTb : T ≤ 1000000000 := by omega
  have hsm := Lib.hid hsm'
  have hcn : w.cell? ⟨G, 72, none⟩ = some (.int .u64 (N : Int)) := (hb.cell 72).trans (by rw [List.getElem?_toArray]; exact stCells_n _ sm N hsm')
  have hfn := hb.frozen 72
  have hW1 := hb.set_ 72 (.int .u64 (T : Int))
  rw [stCells_setn _ _ _ _ hsm'] at hW1
  have hC1 : Chg (fun k => k = G) w (w.setCell ⟨G, 72, none⟩ (.int .u64 (T : Int))) := Chg.grown (grown_setL _ _ _ _) (by rintro j h; cases h; rfl)
  have hTe : (N : Int) + (n : Int) = (T : Int) := by omega
  have HTn := Lib.hid hT
  have HNL := Lib.hid hN
  have hrest' := hrest
  have Hbl := Lib.hid hbl
  have HLn := Lib.hid hLL
  clear hT hN hrest hbl hLL hG1 hK hsm'
  obtain ⟨v0, hv0⟩ : ∃ v0, v0 = eats h0 L (N / 64) := ⟨_, rfl⟩
  rw [← hv0] at hb hW1
  have Hv0 := Lib.hid hv0
  clear hv0
  by_cases hat : N % 64 = 0
  · clear hrest'
    have hat' : (N : Int) % 64 = 0 := by omega
    have Hat := Lib.hid hat
    clear hat hr64
    go_enter Tryd.func60, Tryd.ntmps60
    go_wp2_with fail
    generalize w.setCell ⟨G, 72, none⟩ (.int .u64 (T : Int)) = W1 at *
    have hF1 := hF.chg hC1
    clear hTe hat' hcn hfn hF
    obtain ⟨m0, hm0'⟩ : ∃ m0, m0 = N / 64 := ⟨_, rfl⟩
    have e0 : T - 64 * m0 = n := by have := HTn.out; have := Hat.out; omega
    have hm0 : 64 * m0 ≤ T := by have := HTn.out; have := Hat.out; omega
    have hc0 : T - 64 * m0 ≤ c := by omega
    have hdr : LL.drop (64 * m0) = b := by
      rw [HLn.out, List.drop_append, List.drop_of_length_le (by have := HNL.out; have := Hat.out; omega), List.nil_append]
      have := HNL.out
      have := Hat.out
      rw [show 64 * m0 - L.length = 0 by omega, List.drop_zero]
    have hF0 : FarB G W1 A (T - 64 * m0) (LL.drop (64 * m0)) := by rw [e0, hdr]; exact hF1
    have hb0 : Blk W1 G 82 (stCells (eats h0 LL m0) sm T).toArray := by
      rw [HLn.out, eats_more h0 L b m0 (by have := HNL.out; have := Hat.out; omega), hm0', ← Hv0.out]; exact hW1
    have hsm0 := hsm
    have hE : (Value.slice A n c) = .slice A (T - 64 * m0) c := by rw [e0]
    rw [hE]
    clear hF1 hW1 hdr e0 hE hm0' hsm
    have hc0' := hc
    have hC0 := hC1
    clear hc hC1 hnc
    go_wp2_with fail
    go_loopw [1] (fun bs wr => ∃ m A1 c1, bs = .slice A1 (T - 64 * m) c1 ∧ 64 * m ≤ T ∧ T - 64 * m ≤ c1 ∧ c1 ≤ 9223372036854775807 ∧ FarB G wr A1 (T - 64 * m) (LL.drop (64 * m)) ∧ Chg (fun k => k = G) w wr ∧
      ∃ sm : List UInt8, Hid (sm.length = 64) ∧ Blk wr G 82 (stCells (eats h0 LL m) sm T).toArray) (fun bs _ => sliceLen bs)
    case atStart => exact ⟨m0, _, _, rfl, hm0, hc0, hc0', hF0, hC0, _, hsm0, hb0⟩
    case round =>
      clear hF0 hC0 hb0 hm0 hc0 hc0'
      obtain ⟨m, A1, c1, rfl, hm, hc1, hc1', hF, hC, sm, hsm, hb⟩ := hrel
      by_cases hlt : 64 ≤ T - 64 * m
      · have h64 : (64 : Int) ≤ ((T - 64 * m : Nat) : Int) := by omega
        have c64 : (64 : Int) ≤ (c1 : Int) := by omega
        generalize hN1 : T - 64 * m = N1 at *
        have HN1 := Lib.hid hN1.symm
        clear hN1
        have hp : ((LL.drop (64 * m)).take 64).length = 64 := by have := HT.out; have := HN1.out; simp; omega
        have hR := (hF.front 64 hlt).rd
        have hK := HK.out.chg hC HGK.out
        obtain ⟨p, hp2⟩ : ∃ p, p = (LL.drop (64 * m)).take 64 := ⟨_, rfl⟩
        rw [← hp2] at hp hR
        have HP := Lib.hid hp
        have HP2 := Lib.hid hp2
        clear hp hp2
        go_wp2_with fail
        refine (block_any G 82 A1 c1 p HP.out (eats h0 LL m) (bcells sm ++ [.int .u64 (T : Int)]) wr hb hR hK HGK'.out).mono ?_
        rintro e w3 ⟨rfl, hb3, hC3⟩
        have hF3 := hF.chg hC3
        have hC4 := hC.trans hC3
        clear hF hC hb hR hK hC3
        go_wp2_with ((with_reducible refine at_slice 25 ?_); refine wpList_from w3 rfl Tryd.underlying25 (by kernel_rfl) _ _ rfl A1 N1 c1 rfl .i64 64 rfl 64 rfl hlt hc1 ?_; intro A2 hcut)
        have hF5 := hF3.cut hcut
        have e1 : N1 - 64 = T - 64 * (m + 1) := by have := HN1.out; omega
        rw [e1, List.drop_drop, show 64 * m + 64 = 64 * (m + 1) by omega] at hF5
        have hb5 : Blk w3 G 82 (stCells (eats h0 LL (m + 1)) sm T).toArray := by
          show Blk w3 G 82 (stCells (comp (eats h0 LL m) ((LL.drop (64 * m)).take 64)) sm T).toArray
          rw [← HP2.out]; exact hb3
        clear hF3 hb3 hcut
        go_roundw
        case rel => exact ⟨m + 1, A2, c1 - 64, by rw [e1], by have := HN1.out; omega, by omega, by omega, hF5, hC4, sm, hsm, hb5⟩
        case measure => simp [sliceLen]; omega
      · have h64 : ((T - 64 * m : Nat) : Int) < (64 : Int) := by omega
        have hmT : m = T / 64 := by omega
        have hmr : T - 64 * m = T % 64 := by omega
        have hlen : (LL.drop (64 * m)).length = T - 64 * m := by rw [List.length_drop, HT.out]
        have HL := Lib.hid hlen
        have hsz : (stCells (eats h0 LL m) sm T).toArray.size = 73 := by rw [List.size_toArray]; exact stCells_length _ _ _ hsm.out
        have HZ := Lib.hid hsz
        have HmT := Lib.hid hmT
        have Hmr := Lib.hid hmr
        generalize hN1 : T - 64 * m = N1 at *
        have hN64 : N1 ≤ 64 := by omega
        have HN1 := Lib.hid hN1.symm
        clear hlen hsz hmT hmr hN1
        go_wp2_with ((with_reducible refine at_copy ?_); refine wpList_copyAt wr Tryd.underlying25 (by kernel_rfl) rfl _ _ rfl G 8 _ hb (some ⟨G, 8, none⟩) 64 64 rfl _ A1 N1 c1 _ rfl hF.rd (bcells_one _) N1 (Nat.min_eq_left hN64).symm (fun _ => rfl) (by rw [HZ.out]; omega) ?_; intro w4 hb4 hg4 hs4)
        go_end0
        have hC4 := hC.trans (Chg.grown (Z := fun k => k = G) hg4 (by rintro j h; cases h; rfl))
        refine ⟨rfl, ⟨(LL.drop (64 * m)) ++ sm.drop N1, ?_, ?_, ?_⟩, hC4⟩
        · rw [List.length_append, HL.out, List.length_drop, hsm.out]; omega
        · rw [HLL.out, HT.out, ← Hmr.out, ← HmT.out, List.take_left' HL.out]
        · rw [HLL.out, HT.out, ← HmT.out]
          have := stCells_splice (eats h0 LL m) sm T 0 (LL.drop (64 * m)) hsm.out (by rw [HL.out]; omega)
          rw [List.take_zero, List.nil_append, HL.out, Nat.zero_add, Nat.add_zero] at this
          rw [← this]
          have e8 : (bcells (LL.drop (64 * m))).take N1 = bcells (LL.drop (64 * m)) := List.take_of_length_le (by rw [bcells_length, HL.out]; exact Nat.le_refl _)
          rw [e8] at hb4
          exact hb4
  · obtain ⟨r, hr⟩ : ∃ r, r = N % 64 := ⟨_, rfl⟩
    have hat' : (N : Int) % 64 = (r : Int) := by omega
    have hr0 : (0 : Int) < (r : Int) := by omega
    have hr1 : r < 64 := by omega
    have hr2 : (r : Int) ≤ (64 : Int) := by omega
    have hr3 : (0 : Int) ≤ (r : Int) := by omega
    have h64r : ¬ (64 = r) := by omega
    have HR := Lib.hid hr
    have hd1 : Hid (64 * (N / 64) + r = N) := Lib.hid (by omega)
    rw [← hr] at hrest'
    have Hrest2 := Lib.hid hrest'
    clear hat hr hr64 hrest'
    have hF1 := hF.chg hC1
    have hrd := hF1.rd
    have hbc : (bcells b).length = n := by rw [bcells_length]; exact Hbl.out
    have HBC := Lib.hid hbc
    clear hbc
    by_cases hfit : r + n < 64
    · have hfi : (r : Int) + (n : Int) < 64 := by omega
      have hmn : n = Nat.min n (64 - r) := (Nat.min_eq_left (by omega)).symm
      have Hmn := Lib.hid hmn
      have hsz : (stCells v0 sm T).toArray.size = 73 := by rw [List.size_toArray]; exact stCells_length _ _ _ hsm.out
      have HZ := Lib.hid hsz
      clear hmn hsz
      go_enter Tryd.func60, Tryd.ntmps60
      go_wp2_with (first
        | ((with_reducible refine at_copy ?_); refine wpList_copyAt (w.setCell ⟨G, 72, none⟩ (.int .u64 (T : Int))) Tryd.underlying25 (by kernel_rfl) rfl _ _ rfl G (8 + r) _ hW1 (some ⟨G, 8 + r, none⟩) (64 - r) (64 - r) rfl _ A n c _ rfl hrd (bcells_one _) n Hmn.out (fun _ => rfl) (by rw [HZ.out]; omega) ?_; intro w4 hb4 hg4 hs4)
        | ((with_reducible refine at_slice 25 ?_); refine wpList_from _ rfl Tryd.underlying25 (by kernel_rfl) _ _ rfl A n c rfl .i64 (n : Int) rfl n rfl (Nat.le_refl _) hnc ?_; intro A2 hcut))
      have hC4 := hC1.trans (Chg.grown (Z := fun k => k = G) hg4 (by rintro j h; cases h; rfl))
      refine bodyPost_ret (results_none rfl _ _ _) rfl ⟨rfl, ⟨sm.take r ++ (b ++ sm.drop (r + n)), ?_, ?_, ?_⟩, hC4⟩
      · have := fill_length sm b r hsm.out (by rw [Hbl.out]; omega)
        rw [Hbl.out] at this; exact this
      · have e1 : (L ++ b).length % 64 = r + n := by rw [List.length_append, ← HNL.out, Hbl.out]; have := hd1.out; omega
        have e2 : 64 * ((L ++ b).length / 64) = 64 * (N / 64) := by rw [List.length_append, ← HNL.out, Hbl.out]; have := hd1.out; omega
        rw [e1, e2, List.drop_append_of_le_length (by rw [← HNL.out]; have := hd1.out; omega), ← Hrest2.out, ← List.append_assoc, List.take_left' (by simp [hsm.out, Hbl.out]; omega)]
      · have e2 : (L ++ b).length / 64 = N / 64 := by rw [List.length_append, ← HNL.out, Hbl.out]; have := hd1.out; omega
        have e3 : (L ++ b).length = T := by rw [List.length_append, ← HNL.out, Hbl.out]; exact HTn.out.symm
        rw [e2, e3, eats_more h0 L b _ (by rw [← HNL.out]; have := hd1.out; omega), ← Hv0.out]
        have := stCells_splice v0 sm T r b hsm.out (by rw [Hbl.out]; omega)
        rw [Hbl.out] at this
        rw [← this]
        rw [List.take_of_length_le (by rw [HBC.out]; exact Nat.le_refl _)] at hb4
        exact hb4
    · have hfi : (64 : Int) ≤ (r : Int) + (n : Int) := by omega
      have hmn : 64 - r = Nat.min n (64 - r) := (Nat.min_eq_right (by omega)).symm
      have Hmn := Lib.hid hmn
      have hsz : (stCells v0 sm T).toArray.size = 73 := by rw [List.size_toArray]; exact stCells_length _ _ _ hsm.out
      have HZ := Lib.hid hsz
      obtain ⟨q, hq⟩ : ∃ q, q = 64 - r := ⟨_, rfl⟩
      have hqi : (r : Int) + (q : Int) = (64 : Int) := by omega
      have hqn : q ≤ n := by omega
      rw [← hq] at Hmn
      have Hq := Lib.hid hq
      clear hmn hsz hfi hfit
      have hqr : Hid (64 - r = q) := Lib.hid hq.symm
      have hq8 : 8 + r + q ≤ 73 := by omega
      clear hq
      go_enter Tryd.func60, Tryd.ntmps60
      go_wp2_with (first
        | ((with_reducible refine at_copy ?_); refine wpList_copyAt (w.setCell ⟨G, 72, none⟩ (.int .u64 (T : Int))) Tryd.underlying25 (by kernel_rfl) rfl _ _ rfl G (8 + r) _ hW1 (some ⟨G, 8 + r, none⟩) (64 - r) (64 - r) rfl _ A n c _ rfl hrd (bcells_one _) q (by rw [hqr.out]; exact Hmn.out) (fun _ => rfl) (by rw [HZ.out]; omega) ?_; intro w4 hb4 hg4 hs4)
        | ((with_reducible refine at_slice 25 ?_); refine wpList_from _ rfl Tryd.underlying25 (by kernel_rfl) _ _ rfl A n c rfl .i64 (q : Int) rfl q rfl hqn hnc ?_; intro A2 hcut))
      have hC4 := hC1.trans (Chg.grown (Z := fun k => k = G) hg4 (by rintro j h; cases h; rfl))
      have hF4 := (hF.chg hC4).cut hcut
      obtain ⟨pb, hpb⟩ : ∃ pb, pb = sm.take r ++ b.take q := ⟨_, rfl⟩
      have hbq : (b.take q).length = q := by rw [List.length_take, Hbl.out]; omega
      have hpl : pb.length = 64 := by rw [hpb, List.length_append, hbq, List.length_take, hsm.out]; have := Hq.out; omega
      have hb5 : Blk w4 G 82 (stCells v0 pb T).toArray := by
        have := stCells_splice v0 sm T r (b.take q) hsm.out (by rw [hbq]; have := Hq.out; omega)
        rw [hbq, List.drop_of_length_le (by rw [hsm.out]; have := Hq.out; omega), List.append_nil, ← hpb] at this
        rw [← this]
        simp only [bcells, List.map_take] at hb4 ⊢
        exact hb4
      have hpR : Rd w4 w4.heap.size 1 (some ⟨G, 8, none⟩) 64 (bcells pb) := by
        have := hb5.rdAtB 8 64 (by rw [List.size_toArray, stCells_length _ _ _ hpl]; omega)
        have e : (((stCells v0 pb T).toArray.toList.drop 8).take 64) = bcells pb := by
          show ((wcells v0.list ++ (bcells pb ++ [Value.int .u64 (T : Int)])).drop 8).take 64 = _
          rw [List.drop_left' (by rw [wcells_length, V8.list_length]), List.take_left' (by rw [bcells_length, hpl])]
        rw [e] at this
        exact this
      have hK4 := HK.out.chg hC4 HGK.out
      have Hpl := Lib.hid hpl
      have Hpb := Lib.hid hpb
      clear hb4 hg4 hs4 hpl hpb hbq hW1 hC1 hF hF1 hrd
      go_wp2_with fail
      refine (block_any G 82 (some ⟨G, 8, none⟩) 64 pb Hpl.out v0 (bcells pb ++ [.int .u64 (T : Int)]) w4 hb5 hpR hK4 HGK'.out).mono ?_
      rintro e w6 ⟨rfl, hb6, hC6⟩
      have hC0 := hC4.trans hC6
      have hF6 := hF4.chg hC6
      clear hb5 hpR hK4 hC4 hC6 hF4 hcut
      obtain ⟨m0, hm0'⟩ : ∃ m0, m0 = N / 64 + 1 := ⟨_, rfl⟩
      have e0 : T - 64 * m0 = n - q := by have := HTn.out; have := hd1.out; have := Hq.out; omega
      have hm0 : 64 * m0 ≤ T := by have := HTn.out; have := hd1.out; have := Hq.out; omega
      have hc0 : T - 64 * m0 ≤ c - q := by omega
      have hN64 : 64 * (N / 64) = L.length - r := by have := HNL.out; have := hd1.out; omega
      have hNle : 64 * (N / 64) ≤ L.length := by have := HNL.out; have := hd1.out; omega
      have hdr : LL.drop (64 * m0) = b.drop q := by
        rw [HLn.out, List.drop_append, List.drop_of_length_le (by have := HNL.out; have := hd1.out; omega), List.nil_append]
        have := HNL.out
        have := hd1.out
        have := Hq.out
        rw [show 64 * m0 - L.length = q by omega]
      have hblk : (LL.drop (64 * (N / 64))).take 64 = pb := by
        rw [HLn.out, List.drop_append_of_le_length hNle, ← Hrest2.out, Hpb.out, List.take_append, List.take_of_length_le (by simp; omega)]
        have e9 : (sm.take r).length = r := by rw [List.length_take, hsm.out]; omega
        rw [e9, ← Hq.out]
      have hF0 : FarB G w6 A2 (T - 64 * m0) (LL.drop (64 * m0)) := by rw [e0, hdr]; exact hF6
      have hb0 : Blk w6 G 82 (stCells (eats h0 LL m0) pb T).toArray := by
        rw [hm0']
        show Blk w6 G 82 (stCells (comp (eats h0 LL (N / 64)) ((LL.drop (64 * (N / 64))).take 64)) pb T).toArray
        rw [hblk]
        have e7 : eats h0 LL (N / 64) = v0 := by rw [HLn.out, eats_more h0 L b _ hNle, Hv0.out]
        rw [e7]; exact hb6
      have hsm0 := Hpl
      have hE : (Value.slice A2 (n - q) (c - q)) = .slice A2 (T - 64 * m0) (c - q) := by rw [e0]
      rw [hE]
      have hc0' : c - q ≤ 9223372036854775807 := by omega
      clear hF6 hb6 hdr e0 hE hm0' hsm hblk hN64 hNle hc hnc hr0 hr1 hr2 hr3 h64r hqi hqn hq8 hat' hcn hfn hTe
      go_wp2_with fail
      go_loopw [1] (fun bs wr => ∃ m A1 c1, bs = .slice A1 (T - 64 * m) c1 ∧ 64 * m ≤ T ∧ T - 64 * m ≤ c1 ∧ c1 ≤ 9223372036854775807 ∧ FarB G wr A1 (T - 64 * m) (LL.drop (64 * m)) ∧ Chg (fun k => k = G) w wr ∧
        ∃ sm : List UInt8, Hid (sm.length = 64) ∧ Blk wr G 82 (stCells (eats h0 LL m) sm T).toArray) (fun bs _ => sliceLen bs)
      case atStart => exact ⟨m0, _, _, rfl, hm0, hc0, hc0', hF0, hC0, _, hsm0, hb0⟩
      case round =>
        clear hF0 hC0 hb0 hm0 hc0 hc0'
        obtain ⟨m, A1, c1, rfl, hm, hc1, hc1', hF, hC, sm, hsm, hb⟩ := hrel
        by_cases hlt : 64 ≤ T - 64 * m
        · have h64 : (64 : Int) ≤ ((T - 64 * m : Nat) : Int) := by omega
          have c64 : (64 : Int) ≤ (c1 : Int) := by omega
          generalize hN1 : T - 64 * m = N1 at *
          have HN1 := Lib.hid hN1.symm
          clear hN1
          have hp : ((LL.drop (64 * m)).take 64).length = 64 := by have := HT.out; have := HN1.out; simp; omega
          have hR := (hF.front 64 hlt).rd
          have hK := HK.out.chg hC HGK.out
          obtain ⟨p, hp2⟩ : ∃ p, p = (LL.drop (64 * m)).take 64 := ⟨_, rfl⟩
          rw [← hp2] at hp hR
          have HP := Lib.hid hp
          have HP2 := Lib.hid hp2
          clear hp hp2
          go_wp2_with fail
          refine (block_any G 82 A1 c1 p HP.out (eats h0 LL m) (bcells sm ++ [.int .u64 (T : Int)]) wr hb hR hK HGK'.out).mono ?_
          rintro e w3 ⟨rfl, hb3, hC3⟩
          have hF3 := hF.chg hC3
          have hC4 := hC.trans hC3
          clear hF hC hb hR hK hC3
          go_wp2_with ((with_reducible refine at_slice 25 ?_); refine wpList_from w3 rfl Tryd.underlying25 (by kernel_rfl) _ _ rfl A1 N1 c1 rfl .i64 64 rfl 64 rfl hlt hc1 ?_; intro A2 hcut)
          have hF5 := hF3.cut hcut
          have e1 : N1 - 64 = T - 64 * (m + 1) := by have := HN1.out; omega
          rw [e1, List.drop_drop, show 64 * m + 64 = 64 * (m + 1) by omega] at hF5
          have hb5 : Blk w3 G 82 (stCells (eats h0 LL (m + 1)) sm T).toArray := by
            show Blk w3 G 82 (stCells (comp (eats h0 LL m) ((LL.drop (64 * m)).take 64)) sm T).toArray
            rw [← HP2.out]; exact hb3
          clear hF3 hb3 hcut
          go_roundw
          case rel => exact ⟨m + 1, A2, c1 - 64, by rw [e1], by have := HN1.out; omega, by omega, by omega, hF5, hC4, sm, hsm, hb5⟩
          case measure => simp [sliceLen]; omega
        · have h64 : ((T - 64 * m : Nat) : Int) < (64 : Int) := by omega
          have hmT : m = T / 64 := by omega
          have hmr : T - 64 * m = T % 64 := by omega
          have hlen : (LL.drop (64 * m)).length = T - 64 * m := by rw [List.length_drop, HT.out]
          have HL := Lib.hid hlen
          have hsz : (stCells (eats h0 LL m) sm T).toArray.size = 73 := by rw [List.size_toArray]; exact stCells_length _ _ _ hsm.out
          have HZ := Lib.hid hsz
          have HmT := Lib.hid hmT
          have Hmr := Lib.hid hmr
          generalize hN1 : T - 64 * m = N1 at *
          have hN64 : N1 ≤ 64 := by omega
          have HN1 := Lib.hid hN1.symm
          clear hlen hsz hmT hmr hN1
          go_wp2_with ((with_reducible refine at_copy ?_); refine wpList_copyAt wr Tryd.underlying25 (by kernel_rfl) rfl _ _ rfl G 8 _ hb (some ⟨G, 8, none⟩) 64 64 rfl _ A1 N1 c1 _ rfl hF.rd (bcells_one _) N1 (Nat.min_eq_left hN64).symm (fun _ => rfl) (by rw [HZ.out]; omega) ?_; intro w4 hb4 hg4 hs4)
          go_end0
          have hC4 := hC.trans (Chg.grown (Z := fun k => k = G) hg4 (by rintro j h; cases h; rfl))
          refine ⟨rfl, ⟨(LL.drop (64 * m)) ++ sm.drop N1, ?_, ?_, ?_⟩, hC4⟩
          · rw [List.length_append, HL.out, List.length_drop, hsm.out]; omega
          · rw [HLL.out, HT.out, ← Hmr.out, ← HmT.out, List.take_left' HL.out]
          · rw [HLL.out, HT.out, ← HmT.out]
            have := stCells_splice (eats h0 LL m) sm T 0 (LL.drop (64 * m)) hsm.out (by rw [HL.out]; omega)
            rw [List.take_zero, List.nil_append, HL.out, Nat.zero_add, Nat.add_zero] at this
            rw [← this]
            have e8 : (bcells (LL.drop (64 * m))).take N1 = bcells (LL.drop (64 * m)) := List.take_of_length_le (by rw [bcells_length, HL.out]; exact Nat.le_refl _)
            rw [e8] at hb4
            exact hb4
end Go.Proofs.YtapkhafgfbhkkaaDoor
