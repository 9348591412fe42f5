/-
  Walks: sha.Pad, sha's state.end.
-/
import Derived.Test.YtapkhafgfbhkkaaDoorShaG
import Derived.Test.YtapkhafgfbhkkaaDoorWordB
namespace Go.Proofs.YtapkhafgfbhkkaaDoor
open Go.RowKit Sha

theorem putAll_be64 (n : Nat) : putAll [n] 8 false = be64 n := by
  simp only [putAll, List.flatMap_cons, List.flatMap_nil, List.append_nil]
  rfl
theorem pad_eq (n : Nat) (h : n ≤ 1000000000) : 128 :: List.replicate (padZ n) 0 ++ putAll [8 * n] 8 false = pad n := by
  rw [putAll_be64]; unfold pad; rw [Nat.mod_eq_of_lt (by omega)]
theorem pad_cells (z : Nat) : (madeCells (Value.int .u8 0).cells (1 + z)).setIfInBounds 0 (.int .u8 128) = (bcells (128 :: List.replicate z 0)).toArray := by
  have e : madeCells (Value.int .u8 0).cells (1 + z) = (Value.int .u8 0 :: List.replicate z (Value.int .u8 0)).toArray := by
    apply Array.ext
    · simp [size_madeCells]; omega
    · intro i h1 h2
      have := List.replicate_succ (n := z) (a := Value.int .u8 0)
      simp only [← this] at h2 ⊢
      simp [madeCells, Value.cells, Nat.mod_one] at h1 ⊢
  rw [e]
  simp [bcells]
theorem padI (n : Nat) : ∃ r : Nat, (n : Int) % 64 = r ∧ r < 64 ∧ ((119 : Int) - r) % 64 = (padZ n : Nat) := by
  refine ⟨n % 64, by omega, Nat.mod_lt _ (by omega), ?_⟩
  unfold padZ
  omega

set_option maxHeartbeats 1000000 in
theorem pad_any (n : Nat) (hn : n ≤ 1000000000) (w : World) :
    Calls Tryd.prog 70 #[.int .u64 (n : Int)] w fun e w' => ∃ A c, e = .returned (.slice A (pad n).length c) ∧ w'.ownsRow w.heap.size 5 1 (.slice A (pad n).length c) (pad n).length (bcells (pad n)) ∧ Below w.heap.size w w' := by
  obtain ⟨r, h1, h2, h3⟩ := padI n
  have hpl := pad_length n
  have hpe := pad_eq n hn
  obtain ⟨z, hz⟩ : ∃ z, z = padZ n := ⟨_, rfl⟩
  rw [← hz] at h3 hpl hpe
  have hz64 : z < 64 := by rw [hz]; unfold padZ; omega
  have Hpl := Lib.hid hpl
  have Hpe := Lib.hid hpe
  clear hz hpl hpe
  have hr2 : (r : Int) ≤ 63 := by omega
  go_enter Tryd.func70, Tryd.ntmps70
  go_wp2_with (at_make; refine wpList_makeN w el8 rfl _ _ rfl .u64 .u64 _ _ (1 + z) (1 + z) rfl rfl (by omega) (by omega) (by omega) (by omega) (by omega) ?_; intro w1 hb1 hs1 hB1; (have hsz := size_madeCells (Value.int .u8 0).cells ((1 + z) * 1)); (obtain ⟨vc, hvc⟩ : ∃ v, w1.cell? ⟨w.heap.size, 0, none⟩ = some v := by rw [hb1.cell]; exact ⟨_, Array.getElem?_eq_getElem (by rw [hsz]; omega)⟩); (have hfc := hb1.frozen 0))
  have hb2 := hb1.set_ 0 (.int .u8 128)
  rw [Nat.mul_one, pad_cells] at hb2
  have hB2 := hB1.setCell (p := ⟨w.heap.size, 0, none⟩) (by simp) (.int .u8 128)
  have hs2 : (w1.setCell ⟨w.heap.size, 0, none⟩ (.int .u8 128)).heap.size = w.heap.size + 1 := by simp [hs1]
  generalize w1.setCell ⟨w.heap.size, 0, none⟩ (.int .u8 128) = w2 at *
  have hb3 := Blk.new w2 38 #[.int .u64 (8 * (n : Int))]
  have hb2' := hb2.alloc (.cells #[.int .u64 (8 * (n : Int))] 38)
  have hB3 : Below w.heap.size w (w2.alloc (.cells #[.int .u64 (8 * (n : Int))] 38)) := hB2.alloc (by omega) _
  have hr1 := hb2'.rd (size := 1) (n := 1 + z) (by simp [bcells_length]; omega)
  have hr2' := hb3.rd (size := 1) (n := 1) rfl
  rw [hs2] at hr2'
  have HS2 := Lib.hid hs2
  generalize w2.alloc (.cells #[.int .u64 (8 * (n : Int))] 38) = w3 at *
  refine (putBe64_any (some ⟨w.heap.size, 0, none⟩) (1 + z) (1 + z) (128 :: List.replicate z 0) w3 (some ⟨w.heap.size + 1, 0, none⟩) 1 1 [8 * n] hr1 (by omega) hr2' (by omega)).mono ?_
  rintro e w4 ⟨A4, c4, rfl, hO4, hB4⟩
  rw [Hpe.out] at hO4
  have hB5 := hB3.trans (hB4.mono hB3.size)
  have e9 : 1 + z + 8 * 1 = (pad n).length := by rw [Hpl.out]
  rw [e9] at hO4 ⊢
  have hO5 := own_baseS hO4 hB3.size
  clear e9 hsz hvc hfc hb1 hs1 hs2 hB1 hb2 hB2 hb3 hb2' hr1 hr2' hO4
  go_wp2
  go_ret
  exact ⟨A4, c4, rfl, hO5, hB5⟩

/-- the first k words' bytes, and 0 behind them -/
def outs (v : V8) (k : Nat) : List UInt8 := (v.list.take k).flatMap outW ++ List.replicate (32 - 4 * k) 0
theorem flat4 (l : List W) : (l.flatMap outW).length = 4 * l.length := by
  induction l with
  | nil => rfl
  | cons x l ih => simp only [List.flatMap_cons, List.length_append, ih, List.length_cons]; simp [outW]; omega
theorem outs_length (v : V8) (k : Nat) (h : k ≤ 8) : (outs v k).length = 32 := by
  unfold outs; rw [List.length_append, flat4, List.length_take, List.length_replicate, V8.list_length]; omega
theorem outs_all (v : V8) : outs v 8 = out v := by
  unfold outs out; rw [List.take_of_length_le (by rw [V8.list_length]; exact Nat.le_refl _)]; simp
theorem set4 {α : Type} (x r : List α) (z0 z1 z2 z3 a b c d : α) (k : Nat) (h : x.length = k) : ((((x ++ z0 :: z1 :: z2 :: z3 :: r).set k a).set (k + 1) b).set (k + 2) c).set (k + 3) d = x ++ [a, b, c, d] ++ r := by
  subst h
  rw [List.set_append_right _ _ (Nat.le_refl _), List.set_append_right _ _ (by omega), List.set_append_right _ _ (by omega), List.set_append_right _ _ (by omega)]
  simp
theorem outs_set (v : V8) (k : Nat) (h : k < 8) (x : W) (hx : x = v.list[k]?.getD 0) :
    ((((outs v k).set (4 * k) (ob (x >>> 24))).set (4 * k + 1) (ob (x >>> 16))).set (4 * k + 2) (ob (x >>> 8))).set (4 * k + 3) (ob x) = outs v (k + 1) := by
  unfold outs
  rw [show 32 - 4 * k = (32 - 4 * (k + 1)) + 1 + 1 + 1 + 1 by omega, List.replicate_succ, List.replicate_succ, List.replicate_succ, List.replicate_succ]
  rw [set4 _ _ _ _ _ _ _ _ _ _ _ (by rw [flat4, List.length_take, V8.list_length]; omega)]
  have hk : k < v.list.length := by rw [V8.list_length]; exact h
  rw [List.take_succ_eq_append_getElem hk, List.flatMap_append]
  have : x = v.list[k] := by rw [hx, List.getElem?_eq_getElem hk]; rfl
  simp only [List.flatMap_cons, List.flatMap_nil, List.append_nil, ← this]
  rfl
theorem bset (l : List UInt8) (k : Nat) (c : UInt8) : (bcells l).toArray.setIfInBounds k (.int .u8 (c.toNat : Int)) = (bcells (l.set k c)).toArray := by
  simp [bcells, List.map_set]
theorem u_shr24 (x : W) : u x / (16777216 : Int) = u (x >>> 24) := u_shr x 24
theorem u_shr16 (x : W) : u x / (65536 : Int) = u (x >>> 16) := u_shr x 16
theorem u_shr8 (x : W) : u x / (256 : Int) = u (x >>> 8) := u_shr x 8
theorem u_ob' (x : W) : u x % (256 : Int) = ((ob x).toNat : Int) := by rw [← u_ob, IntKind.wrap_u8']
attribute [local go_sem] u_shr24 u_shr16 u_shr8 u_ob u_ob'
def znode : List UInt8 := List.replicate 32 0
def zn : Array Value := (bcells znode).toArray
theorem zeroNode (w : World) : (zeroValue 27).run Tryd.prog w = .ok (.agg zn) w := by kernel_rfl

set_option maxRecDepth 100000 in
set_option maxHeartbeats 4000000 in
theorem end_any (G : Nat) (L : List UInt8) (w : World) (hS : ShaSt G L w) (hLn : L.length ≤ 100000000) {tK : TypeId} (hK : Blk w 1 tK (wcells kTab).toArray) (hG1 : G ≠ 1) :
    Calls Tryd.prog 61 #[.pointer (some ⟨G, 0, none⟩)] w fun e w' => e = .returned (.agg (bcells (Sha.sum L)).toArray) ∧ Below G w w' := by
  have hz := zeroNode
  obtain ⟨sm, hsm', hrest, hb⟩ := hS
  have hcn : w.cell? ⟨G, 72, none⟩ = some (.int .u64 (L.length : Int)) := (hb.cell 72).trans (by rw [List.getElem?_toArray]; exact stCells_n _ sm _ hsm')
  have hGlt : G < w.heap.size := hb.lt
  have HS : ShaSt G L w := ⟨sm, hsm', hrest, hb⟩
  have hcn2 : (w.alloc (.cells zn 27)).cell? ⟨G, 72, none⟩ = some (.int .u64 (L.length : Int)) := (World.cell?_alloc_lt w _ ⟨G, 72, none⟩ hGlt).trans hcn
  clear hb hrest hsm' hcn
  go_enter Tryd.func61, Tryd.ntmps61
  go_wp2_with fail
  have hN := Blk.new w 27 zn
  have hE0 : Below w.heap.size w (w.alloc (.cells zn 27)) := (Below.refl _ _).alloc (Nat.le_refl _) _
  have hs0 : (w.alloc (.cells zn 27)).heap.size = w.heap.size + 1 := by simp
  generalize w.alloc (.cells zn 27) = W0 at *
  refine (pad_any L.length (by omega) W0).mono ?_
  rintro e W1 ⟨A, c, rfl, hO, hB1⟩
  have hNlt := hN.lt
  have hN1 := hN.below hB1 hNlt
  have hE1 := hE0.trans (hB1.mono hE0.size)
  have hS1 := HS.below hE1 hGlt
  have hK1 := hK.below hE1 hK.lt
  obtain ⟨hc1, hc2⟩ := own_cap hO
  have hpl := pad_length L.length
  have hpz : padZ L.length < 64 := by unfold padZ; omega
  have Hs0 := Lib.hid hs0
  clear hcn2 hN hs0
  have HO := Lib.hid hO
  clear hO
  have Hpl := Lib.hid hpl
  clear hpl
  go_wp2_with fail
  refine (write_any G A (pad L.length).length c (pad L.length) L W1 hS1 (FarB.of_own HO.out (by have := Hs0.out; omega)) hc1 hc2 (by have := Hpl.out; omega) hK1 hG1).mono ?_
  rintro e W2 ⟨rfl, hS2, hC2⟩
  have hN2 := hN1.chg hC2 (show ¬ w.heap.size = G by omega)
  have hsz2 := hC2.size
  have hBG : Below G w W2 := (hE1.mono (Nat.le_of_lt hGlt)).trans (hC2.below (fun k hk => by have hk : k = G := hk; omega) (by have := hE1.size; omega))
  have hGn : w.heap.size < W2.heap.size := hN2.lt
  obtain ⟨sm2, hsm2, _, hb2⟩ := hS2
  obtain ⟨v, hv⟩ : ∃ v, v = eats h0 (L ++ pad L.length) ((L ++ pad L.length).length / 64) := ⟨_, rfl⟩
  rw [← hv] at hb2
  have hout : Sha.sum L = out v := by
    unfold Sha.sum
    rw [hv, List.length_append]
  have Hout := Lib.hid hout
  clear hv hout hS1 hK1 hN1 hE1 hC2 hK HS hE0 hB1
  have hrg : W2.rangeAt G 0 (wcells v.list) := by
    intro j x hx
    rw [Nat.zero_add, hb2.cell, List.getElem?_toArray]
    unfold stCells
    rw [List.getElem?_append_left (List.getElem?_eq_some_iff.1 hx).1]
    exact hx
  have hrg2 : (W2.alloc (.cells zn 27)).rangeAt G 0 (wcells v.list) := by
    intro j x hx
    exact (World.cell?_alloc_lt W2 _ ⟨G, 0 + j, none⟩ (by show G < W2.heap.size; omega)).trans (hrg j x hx)
  clear hb2 hsm2 hrg
  have hN3 := hN2.alloc (.cells zn 27)
  have hM3 := Blk.new W2 27 zn
  have hB3 := hBG.alloc (by omega) (.cells zn 27)
  go_wp2_with ((with_reducible refine at_load 75 ?_); refine wpList_load_mid rfl _ _ rfl G 0 rfl (wcells v.list) _ hrg2 Tryd.underlying75 rfl (by kernel_rfl) ?_)
  generalize W2.alloc (.cells zn 27) = W3 at *
  obtain ⟨g2, hg2⟩ : ∃ g, g = W2.heap.size := ⟨_, rfl⟩
  rw [← hg2] at hM3 hGn ⊢
  clear hrg2 hN2 hBG hg2 hz hsz2
  go_wp2_with fail
  go_loopw [17] (fun i wr => ∃ k : Nat, k ≤ 8 ∧ i = .int .i64 k ∧ Blk wr g2 27 (bcells (outs v k)).toArray ∧ Blk wr w.heap.size 27 zn ∧ Below G w wr) (fun i _ => 8 - (intOf i).toNat)
  case atStart => exact ⟨0, by omega, rfl, hM3, hN3, hB3⟩
  case round =>
    clear hM3 hN3 hB3
    obtain ⟨k, hk8, rfl, hM, hN, hB⟩ := hrel
    by_cases hlt : k < 8
    · have hix : ∀ W, (Instr.index 75 (.agg (wcells v.list).toArray) (.int .i64 (k : Int))).run Tryd.prog W = .ok (.int .u32 (u (v.list[k]?.getD 0))) W := fun W => wordIndex Tryd.underlying75 Tryd.underlying22 (by kernel_rfl) v.list rfl k hlt W
      obtain ⟨x, hx⟩ : ∃ x, x = v.list[k]?.getD 0 := ⟨_, rfl⟩
      rw [← hx] at hix
      have hos := outs_set v k hlt x hx
      have Hos := Lib.hid hos
      have hol : (bcells (outs v k)).toArray.size = 32 := by simp [bcells_length, outs_length v k hk8]
      have hcc : ∀ j, j < 32 → ∃ y, wr.cell? ⟨g2, j, none⟩ = some y := fun j hj => by rw [hM.cell]; exact ⟨_, Array.getElem?_eq_getElem (by rw [hol]; exact hj)⟩
      obtain ⟨y0, hy0⟩ := hcc (4 * k) (by omega)
      obtain ⟨y1, hy1⟩ := hcc (4 * k + 1) (by omega)
      obtain ⟨y2, hy2⟩ := hcc (4 * k + 2) (by omega)
      obtain ⟨y3, hy3⟩ := hcc (4 * k + 3) (by omega)
      have f0 := hM.frozen (4 * k)
      have f1 := hM.frozen (4 * k + 1)
      have f2 := hM.frozen (4 * k + 2)
      have f3 := hM.frozen (4 * k + 3)
      have hM4 := (((hM.set_ (4 * k) (.int .u8 ((ob (x >>> 24)).toNat : Int))).set_ (4 * k + 1) (.int .u8 ((ob (x >>> 16)).toNat : Int))).set_ (4 * k + 2) (.int .u8 ((ob (x >>> 8)).toNat : Int))).set_ (4 * k + 3) (.int .u8 ((ob x).toNat : Int))
      rw [bset, bset, bset, bset, Hos.out] at hM4
      have hne : ∀ j, w.heap.size ≠ (⟨g2, j, none⟩ : Addr).block := fun j => by show w.heap.size ≠ g2; omega
      have hN4 := (((hN.far (hne (4 * k)) (.int .u8 ((ob (x >>> 24)).toNat : Int))).far (hne (4 * k + 1)) (.int .u8 ((ob (x >>> 16)).toNat : Int))).far (hne (4 * k + 2)) (.int .u8 ((ob (x >>> 8)).toNat : Int))).far (hne (4 * k + 3)) (.int .u8 ((ob x).toNat : Int))
      have hge : ∀ j, G ≤ (⟨g2, j, none⟩ : Addr).block := fun j => by show G ≤ g2; omega
      have hB4 := (((hB.setCell (hge (4 * k)) (.int .u8 ((ob (x >>> 24)).toNat : Int))).setCell (hge (4 * k + 1)) (.int .u8 ((ob (x >>> 16)).toNat : Int))).setCell (hge (4 * k + 2)) (.int .u8 ((ob (x >>> 8)).toNat : Int))).setCell (hge (4 * k + 3)) (.int .u8 ((ob x).toNat : Int))
      clear hx hos hol hcc hne hge hM hN hB
      go_wp2_with fail
      go_roundw
      case rel =>
        exact ⟨k + 1, by omega, by go_num, hM4, hN4, hB4⟩
      case measure => simp [intOf]; omega
    · obtain rfl : k = 8 := by omega
      rw [outs_all, ← Hout.out] at hM
      obtain ⟨S, hS⟩ : ∃ S, S = Sha.sum L := ⟨_, rfl⟩
      have hSl : S.length = 32 := by rw [hS, sum_length]
      rw [← hS] at hM
      have HSl := Lib.hid hSl
      have HSS := Lib.hid hS
      clear hS hSl Hout
      go_wp2_with (first
        | ((with_reducible refine at_load 27 ?_); refine wpList_loadAll _ rfl 27 _ rfl g2 27 (bcells S).toArray hM _ rfl Tryd.underlying27 rfl (by rw [List.size_toArray, bcells_length, HSl.out]; kernel_rfl) ?_)
        | ((with_reducible refine at_store 27 ?_); refine wpList_storeAll _ rfl 27 _ _ rfl w.heap.size 27 _ (bcells S).toArray hN rfl rfl (by rw [List.size_toArray, bcells_length, HSl.out]; kernel_rfl) (by rw [List.size_toArray, bcells_length, HSl.out]; kernel_rfl) (fun v hv => bcells_one _ v (by simpa using hv)) ?_; intro w5 h14 hg5 hs5))
      refine bodyPost_ret (results_cell_row rfl _ _ w.heap.size _ _ _ _ rfl h14 Tryd.underlying27 rfl (by rw [List.size_toArray, bcells_length, HSl.out]; kernel_rfl)) rfl ⟨by rw [HSS.out], ?_⟩
      exact grown_below hB hg5 (by have := hB.size; omega) (by omega)
end Go.Proofs.YtapkhafgfbhkkaaDoor
