/-
  Walk: sha.Sum of any parts.
-/
import Derived.Test.YtapkhafgfbhkkaaDoorShaH
import Derived.Test.YtapkhafgfbhkkaaDoorWordC
namespace Go.Proofs.YtapkhafgfbhkkaaDoor
open Go.RowKit Sha

/-- a block with these cells, of whatever type -/
def BlkT (w : World) (g : Nat) (cs : Array Value) : Prop := ∃ t, Blk w g t cs
/-- SHA's tables lie as they were laid -/
structure Tabs (w : World) : Prop where
  first : BlkT w 0 (wcells h0.list).toArray
  rounds : BlkT w 1 (wcells kTab).toArray
theorem BlkT.lt {w : World} {g : Nat} {cs : Array Value} (h : BlkT w g cs) : g < w.heap.size := by obtain ⟨t, h⟩ := h; exact h.lt
theorem BlkT.chg {Z : Nat → Prop} {w w' : World} {g : Nat} {cs : Array Value} (h : BlkT w g cs) (c : Chg Z w w') (hg : ¬ Z g) : BlkT w' g cs := by obtain ⟨t, h⟩ := h; exact ⟨t, h.chg c hg⟩
theorem BlkT.below {B : Nat} {w w' : World} {g : Nat} {cs : Array Value} (h : BlkT w g cs) (c : Below B w w') (hg : g < B) : BlkT w' g cs := by obtain ⟨t, h⟩ := h; exact ⟨t, h.below c hg⟩
theorem Tabs.below {w w' : World} (h : Tabs w) (hb : Below w.heap.size w w') : Tabs w' := ⟨h.first.below hb h.first.lt, h.rounds.below hb h.rounds.lt⟩
theorem Tabs.ext {w w' : World} (h : Tabs w) (hb : Ext w w') : Tabs w' := h.below hb
theorem Tabs.drew {w : World} (h : Tabs w) : Tabs w.drew := ⟨h.first, h.rounds⟩
theorem Tabs.alloc {w : World} (h : Tabs w) (o : Obj) : Tabs (w.alloc o) := by
  obtain ⟨⟨t1, h1⟩, ⟨t2, h2⟩⟩ := h
  exact ⟨⟨t1, h1.alloc o⟩, ⟨t2, h2.alloc o⟩⟩
theorem Tabs.lt {w : World} (h : Tabs w) : 1 < w.heap.size := h.rounds.lt
theorem Tabs.under {B : Nat} {w w' : World} (h : Tabs w) (hb : Below B w w') (hB : 1 < B) (hB1 : 0 < B) : Tabs w' := ⟨h.first.below hb hB1, h.rounds.below hb hB⟩
theorem run_st0 (w : World) : (Instr.build 82 #[(0, .agg (wcells h0.list).toArray)]).run Tryd.prog w = .ok (.agg (stCells h0 (List.replicate 64 0) 0).toArray) w := by kernel_rfl
theorem st0 {w : World} {G : Nat} (h : Blk w G 82 (stCells h0 (List.replicate 64 0) 0).toArray) : ShaSt G [] w :=
  ⟨List.replicate 64 0, by simp, rfl, h⟩
theorem stCells_one (v : V8) (sm : List UInt8) (n : Nat) : ∀ x ∈ (stCells v sm n).toArray.toList, x.oneCell' = true := by
  intro x hx
  simp only [stCells, List.mem_append, List.mem_singleton] at hx
  rcases hx with hx | hx | rfl
  · exact wcells_one _ x hx
  · exact bcells_one _ x hx
  · rfl

theorem Bs.all_len (ps : List Bs) (w : World) (B : Nat) (hp : ∀ b ∈ ps, b.ok w B) (k : Nat) : (Bs.all (ps.take k)).length = Bs.tot (ps.take k) := by
  have : ∀ l : List Bs, (∀ b ∈ l, b.ok w B) → (Bs.all l).length = Bs.tot l := by
    intro l
    induction l with
    | nil => intro _; rfl
    | cons b l ih =>
      intro hl
      have h1 : b.l.length = b.n := by have := (hl b (by simp)).len; rw [bcells_length] at this; omega
      have h2 := ih fun x hx => hl x (by simp [hx])
      simp only [Bs.all, Bs.tot, List.flatMap_cons, List.length_append, List.map_cons, List.sum_cons] at *
      rw [h1, h2]
  exact this _ fun b hb => hp b (List.mem_of_mem_take hb)
set_option maxRecDepth 100000 in
set_option maxHeartbeats 2000000 in
theorem sum_any (A : Option Addr) (m c : Nat) (ps : List Bs) (w : World) (hRd : Rd w w.heap.size 1 A m (ps.map Bs.val)) (hp : ∀ b ∈ ps, b.ok w w.heap.size) (hcc : ∀ b ∈ ps, b.n ≤ b.c ∧ b.c ≤ 9223372036854775807)
    (ht : Bs.tot ps ≤ 1000000) (hm : m ≤ 1000000) (hT : Tabs w) :
    Calls Tryd.prog 43 #[.slice A m c] w fun e w' => e = .returned (.agg (bcells (Sha.sum (Bs.all ps))).toArray) ∧ Below w.heap.size w w' := by
  have hlen : ps.length = m := by have := hRd.len; simpa using this
  have HL := Lib.hid hlen; clear hlen
  have hz := zeroNode
  have hTl := hT.lt
  have hT0 := hT.alloc (.cells zn 27)
  obtain ⟨tf, hfst⟩ := hT0.first
  have hz73 : Tryd.zeroCells82.size = 73 := by kernel_rfl
  go_enter Tryd.func43, Tryd.ntmps43
  have hN := Blk.new w 27 zn
  have hb0 := blk_new1 w (.cells zn 27) 82 Tryd.zeroCells82
  have hs0 : (w.alloc (.cells zn 27)).heap.size = w.heap.size + 1 := by simp
  go_wp2_with (first
    | ((with_reducible refine at_load 75 ?_); refine wpList_loadAll _ rfl 75 _ rfl 0 tf (wcells h0.list).toArray hfst _ rfl Tryd.underlying75 rfl (by kernel_rfl) ?_)
    | ((with_reducible refine at_build 82 ?_); refine wpList_buildV _ rfl _ rfl rfl (run_st0 _) ?_)
    | ((with_reducible refine at_store 82 ?_); refine wpList_storeAll _ rfl 82 _ _ rfl (w.heap.size + 1) 82 _ (stCells h0 (List.replicate 64 0) 0).toArray hb0 rfl rfl (by kernel_rfl) (by kernel_rfl) (stCells_one _ _ _) ?_; intro w3 hb3 hg3 hs3))
  have hC3 : Chg (fun k => k = w.heap.size + 1) w w3 := (((Chg.refl _ w).alloc _).alloc _).trans (Chg.grown hg3 (by rintro j h; cases h; rfl))
  have hN3 : Blk w3 w.heap.size 27 zn := (hN.alloc (.cells Tryd.zeroCells82 82)).chg (Chg.grown (Z := fun k => k = w.heap.size + 1) hg3 (by rintro j h; cases h; rfl)) (show ¬ w.heap.size = w.heap.size + 1 by omega)
  have hT3 : Tabs w3 := ⟨hT.first.chg hC3 (show ¬ 0 = w.heap.size + 1 by have := hT.first.lt; omega), hT.rounds.chg hC3 (show ¬ 1 = w.heap.size + 1 by omega)⟩
  have hB3 : Below w.heap.size w w3 := hC3.below (fun k hk => by have hk : k = w.heap.size + 1 := hk; omega) (Nat.le_refl _)
  have hS3 := st0 hb3
  have hG1 : w.heap.size + 1 ≠ 1 := by omega
  have hG3 : w.heap.size + 1 < w3.heap.size := hb3.lt
  clear hb3 hg3 hs3 hC3 hb0 hs0 hN hT0 hfst hz hz73
  obtain ⟨G, hG⟩ : ∃ G, G = w.heap.size + 1 := ⟨_, rfl⟩
  rw [← hG] at hS3 hG1 hG3 ⊢
  have hGw0 : w.heap.size < G := by omega
  clear hG h
  go_loopw [10] (fun i wr => ∃ k : Nat, k ≤ m ∧ i = .int .i64 k ∧ ShaSt G (Bs.all (ps.take k)) wr ∧ Blk wr w.heap.size 27 zn ∧ Tabs wr ∧ Below w.heap.size w wr) (fun i _ => m - (intOf i).toNat)
  case atStart => exact ⟨0, Nat.zero_le _, rfl, hS3, hN3, hT3, hB3⟩
  case round =>
    clear hS3 hN3 hT3 hB3
    obtain ⟨k, hk, rfl, hS, hN, hTw, hB⟩ := hrel
    by_cases hlt : k < m
    · obtain ⟨a, rfl, hab, hcs⟩ := (hRd.below hB).cells (by omega)
      have hkl : k < ps.length := by rw [HL.out]; exact hlt
      obtain ⟨b, hb⟩ : ∃ b, ps[k]? = some b := ⟨_, List.getElem?_eq_getElem hkl⟩
      have c1 : wr.cell? (a.add k) = some (.slice b.A b.n b.c) := hcs k _ (by rw [List.getElem?_map, hb]; rfl)
      have hbm := List.mem_of_getElem? hb
      have hbok : Rd wr w.heap.size 1 b.A b.n (bcells b.l) := (hp b hbm).below hB
      obtain ⟨hbc1, hbc2⟩ := hcc b hbm
      have ht1 := Bs.tot_take ps k b hb
      have ha1 := Bs.all_take ps k b hb
      have ht2 := Bs.tot_le ps (k + 1)
      have hal := Bs.all_len ps w w.heap.size hp k
      have H1 := Lib.hid ha1
      have hbl : (Bs.all (ps.take k)).length + b.n ≤ 1000000000 := by rw [hal]; omega
      have HBL := Lib.hid hbl
      have hGw : G < wr.heap.size := hS.lt
      have hF : FarB G wr b.A b.n b.l := FarB.of_below (hbok.more (by omega)) (by omega)
      clear ht1 ha1 hb hcs ht2 hal hbm hbl hbok
      obtain ⟨tk, hrk⟩ := hTw.rounds
      go_wp2_with fail
      refine (write_any G b.A b.n b.c b.l (Bs.all (ps.take k)) wr hS hF hbc1 hbc2 HBL.out hrk hG1).mono ?_
      rintro e w5 ⟨rfl, hS5, hC5⟩
      rw [← H1.out] at hS5
      have hN5 := hN.chg hC5 (show ¬ w.heap.size = G by omega)
      have hT5 : Tabs w5 := ⟨hTw.first.chg hC5 (show ¬ 0 = G by have := hT.first.lt; omega), hTw.rounds.chg hC5 (show ¬ 1 = G by omega)⟩
      have hB5 : Below w.heap.size w w5 := hB.trans (hC5.below (fun k hk => by have hk : k = G := hk; omega) (by have := hB.size; omega))
      clear hS hN hTw hB hF hC5
      go_wp2_with fail
      go_roundw
      case rel => exact ⟨k + 1, by omega, by go_num, hS5, hN5, hT5, hB5⟩
      case measure => simp [intOf]; omega
    · obtain rfl : k = m := by omega
      have hall : ps.take k = ps := List.take_of_length_le (by rw [HL.out]; omega)
      have hal := Bs.all_len ps w w.heap.size hp k
      rw [hall] at hS hal
      have HA := Lib.hid hal
      clear hall hal
      have hGw : G < wr.heap.size := hS.lt
      obtain ⟨S, hSS⟩ : ∃ S, S = Sha.sum (Bs.all ps) := ⟨_, rfl⟩
      have hSl : S.length = 32 := by rw [hSS, sum_length]
      have HSl := Lib.hid hSl
      have HSS := Lib.hid hSS
      obtain ⟨tk, hrk⟩ := hTw.rounds
      go_wp2_with fail
      refine (end_any G (Bs.all ps) wr hS (by rw [HA.out]; omega) hrk hG1).mono ?_
      rintro e w5 ⟨rfl, hB5⟩
      rw [← hSS]
      have hN5 := hN.below hB5 (by omega)
      have hB6 := hB.trans (hB5.mono (by omega))
      clear hSS hSl hS hN hTw hB hB5
      go_wp2_with ((with_reducible refine at_store 27 ?_); refine wpList_storeAll _ rfl 27 _ _ rfl w.heap.size 27 _ (bcells S).toArray hN5 rfl rfl (by rw [List.size_toArray, bcells_length, HSl.out]; kernel_rfl) (by rw [List.size_toArray, bcells_length, HSl.out]; kernel_rfl) (fun v hv => bcells_one _ v (by simpa using hv)) ?_; intro w6 h14 hg6 hs6)
      refine bodyPost_ret (results_cell_row rfl _ _ w.heap.size _ _ _ _ rfl h14 Tryd.underlying27 rfl (by rw [List.size_toArray, bcells_length, HSl.out]; kernel_rfl)) rfl ⟨by rw [HSS.out], ?_⟩
      exact grown_below hB6 hg6 hB6.size (Nat.le_refl _)
end Go.Proofs.YtapkhafgfbhkkaaDoor
