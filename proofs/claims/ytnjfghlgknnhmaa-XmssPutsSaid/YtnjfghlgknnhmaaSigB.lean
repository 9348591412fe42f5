/-
  Walk: xmss.SigOf of bytes of the right length: the loops.
-/
import Derived.Test.YtnjfghlgknnhmaaSigA
import Derived.Test.YtnjfghlgknnhmaaStore2
namespace Go.Proofs.Ytnjfghlgknnhmaa
open Go.RowKit

def zsig : Array Value := (sigCells 0 zeroNode0 (.slice none 0 0) (.slice none 0 0)).toArray
theorem run_sig35 (idx : Nat) (r : List UInt8) (w : World) (hr : r.length = 32) : (Instr.build 32 #[(0, .int .u32 idx), (1, .agg (bcells r).toArray)]).run Try.prog w = .ok (.agg (sigCells idx r (.slice none 0 0) (.slice none 0 0)).toArray) w := by
  have hl : (flat [.int .u32 idx, .agg (bcells r).toArray]) = .int .u32 idx :: bcells r := by simp [flat, Value.cells]
  have hn : (Value.int .u32 idx :: bcells r).length = 33 := by simp [bcells_length, hr]
  have := run_build_rows (P := Try.prog) w (t := 32) (z := zsig) #[(0, .int .u32 idx), (1, .agg (bcells r).toArray)] [.int .u32 idx, .agg (bcells r).toArray] [(0, 1), (1, 32), (33, 1), (34, 1)]
    Try.underlying32 (by kernel_rfl) (by kernel_rfl) rfl (by simp [Rows1, Value.cells, bcells_length, hr]) (by rw [hl, hn]; exact of_decide_eq_true (by kernel_rfl))
  rw [hl, hn] at this
  rw [this]
  have e : zsig.toList.drop 33 = [.slice none 0 0, .slice none 0 0] := by kernel_rfl
  rw [e]
  simp [sigCells]
theorem run_sig36 (idx : Nat) (r : List UInt8) (v1 v2 : Value) (h : Nat) (w : World) (hr : r.length = 32) :
    (Instr.build 96 #[(0, .agg (sigCells idx r v1 v2).toArray), (1, .int .i64 h)]).run Try.prog w = .ok (.agg (sigCells idx r v1 v2 ++ [Value.int .i64 h]).toArray) w := by
  have hl : (flat [.agg (sigCells idx r v1 v2).toArray, .int .i64 h]) = sigCells idx r v1 v2 ++ [Value.int .i64 h] := by simp [flat, Value.cells]
  have hn : (sigCells idx r v1 v2 ++ [Value.int .i64 h]).length = 36 := by simp [sigCells, bcells_length, hr]
  have := run_build_rows (P := Try.prog) w (t := 96) (z := zsig ++ #[.int .i64 0]) #[(0, .agg (sigCells idx r v1 v2).toArray), (1, .int .i64 h)] [.agg (sigCells idx r v1 v2).toArray, .int .i64 h] [(0, 35), (35, 1)]
    Try.underlying96 (by kernel_rfl) (by kernel_rfl) rfl (by simp [Rows1, Value.cells, sigCells, bcells_length, hr]) (by rw [hl, hn]; exact of_decide_eq_true (by kernel_rfl))
  rw [hl, hn] at this
  rw [this]
  have e : (zsig ++ #[Value.int .i64 0]).toList.drop 36 = [] := by kernel_rfl
  rw [e]
  simp
theorem inf35 : (Try.prog.info? 32).map (·.size) = some 35 := by kernel_rfl
theorem inf36 : (Try.prog.info? 96).map (·.size) = some 36 := by kernel_rfl
theorem sg_one (idx : Nat) (r : List UInt8) (v1 v2 v3 : Value) (h1 : v1.oneCell' = true) (h2 : v2.oneCell' = true) (h3 : v3.oneCell' = true) : ∀ v ∈ (sigCells idx r v1 v2 ++ [v3]).toArray.toList, v.oneCell' = true := by
  intro v hv
  simp only [sigCells, List.mem_append, List.mem_cons, List.not_mem_nil, or_false] at hv
  rcases hv with (rfl | h | rfl | rfl) | rfl
  · rfl
  · exact bcells_one _ v h
  all_goals assumption
theorem sg35_one (idx : Nat) (r : List UInt8) (v1 v2 : Value) (h1 : v1.oneCell' = true) (h2 : v2.oneCell' = true) : ∀ v ∈ (sigCells idx r v1 v2).toArray.toList, v.oneCell' = true := by
  intro v hv
  simp only [sigCells, List.mem_append, List.mem_cons, List.not_mem_nil, or_false] at hv
  rcases hv with rfl | h | rfl | rfl
  · rfl
  · exact bcells_one _ v h
  all_goals assumption
/-- the cutter's box: what is left behind p nodes -/
def Box (w wr : World) (gx : Nat) (l : List UInt8) (p : Nat) : Prop :=
  ∃ Ax cx, Blk wr gx 27 #[.slice Ax (l.length - (36 + 32 * p)) cx] ∧ l.length - (36 + 32 * p) ≤ cx ∧ Rd w w.heap.size 1 Ax (l.length - (36 + 32 * p)) (bcells (l.drop (36 + 32 * p)))
def Loop1 (w : World) (g13 gx idx : Nat) (r l : List UInt8) (h k : Nat) (wr : World) : Prop :=
  Box w wr gx l k ∧ Below w.heap.size w wr ∧ Blk wr w.heap.size 32 zsig ∧
  ∃ A c, Blk wr g13 96 (sigCells idx r (.slice A k c) (.slice none 0 0) ++ [Value.int .i64 h]).toArray ∧ wr.ownsRow w.heap.size 29 32 (.slice A k c) k (ncells (nodesAt l 0 k))
def Loop2 (w : World) (g13 gx idx : Nat) (r l : List UInt8) (h k : Nat) (wr : World) : Prop :=
  Box w wr gx l (67 + k) ∧ Below w.heap.size w wr ∧ Blk wr w.heap.size 32 zsig ∧
  ∃ Ao co A c, Blk wr g13 96 (sigCells idx r (.slice Ao 67 co) (.slice A k c) ++ [Value.int .i64 h]).toArray ∧ wr.ownsRow w.heap.size 29 32 (.slice A k c) k (ncells (nodesAt l 67 k)) ∧
    wr.ownsRow w.heap.size 29 32 (.slice Ao 67 co) 67 (ncells (nodesAt l 0 67)) ∧ ∀ b, (Value.slice Ao 67 co).ownBlock = some b → ¬ (Value.slice A k c).ownBlock = some b

/-- what comes of bytes of the right length -/
def SigEnd (w : World) (l : List UInt8) (o idx : Nat) (r : List UInt8) (e : Ending) (w' : World) : Prop :=
  if idx < 2 ^ hgt o then ∃ A1 c1 A2 c2, e = .returned (.tuple #[.agg (sigCells idx r (.slice A1 67 c1) (.slice A2 (hgt o) c2)).toArray, .int .i64 0]) ∧
      67 ≤ c1 ∧ hgt o ≤ c2 ∧ Rd w' w'.heap.size 32 A1 67 (ncells (nodesAt l 0 67)) ∧ Rd w' w'.heap.size 32 A2 (hgt o) (ncells (nodesAt l 67 (hgt o))) ∧ Below w.heap.size w w'
  else e = .returned (.tuple #[.agg zsig, .int .i64 81]) ∧ Below w.heap.size w w'

set_option maxRecDepth 100000 in
set_option maxHeartbeats 8000000 in
theorem mSigOf_in (A : Option Addr) (c0 : Nat) (l : List UInt8) (o : Nat) (w : World) (h : Rd w w.heap.size 1 A l.length (bcells l)) (hc : l.length ≤ c0) (hk : isKind o = true) (hl : l.length = 36 + 32 * (67 + hgt o))
    (idx : Nat) (hidx : idx = rdNum l 0 4 false) (r : List UInt8) (hr : r = (l.drop 4).take 32) :
    Calls Try.prog 19 #[.slice A l.length c0, .int .u32 o] w (SigEnd w l o idx r) := by
  have hh : hgt o ≤ 20 := by unfold hgt; split <;> (try split) <;> (try split) <;> omega
  have hz : (sigSize o : Int) = (l.length : Nat) := by rw [hl]; simp [sigSize, hk]
  have rL : Hid (r.length = 32) := Lib.hid (by rw [hr]; simp; omega)
  have HR := Lib.hid hr
  have HI := Lib.hid hidx
  have HL := Lib.hid hl
  have HH := Lib.hid hh
  have hb35 := fun W => run_sig35 idx r W rL.out
  have hb36 := fun W => run_sig36 idx r (.slice none 0 0) (.slice none 0 0) (hgt o) W rL.out
  clear hr hidx hl hh
  go_enter Try.func19, Try.ntmps19
  go_wp2_with fail
  change Calls _ _ _ (w.alloc (.cells zsig 32)) _
  have B0 : Below w.heap.size w (w.alloc (.cells zsig 32)) := (Below.refl _ _).alloc (Nat.le_refl _) _
  have hb0 := Blk.new w 32 zsig
  have s0 : Hid ((w.alloc (.cells zsig 32)).heap.size = w.heap.size + 1) := Lib.hid (by simp)
  generalize w.alloc (.cells zsig 32) = W0 at *
  refine (mHeight_any o W0).mono ?_
  rintro e w' ⟨rfl, rfl⟩
  rw [hk]
  go_wp2_with fail
  refine (mSize_any o W0).mono ?_
  rintro e w' ⟨rfl, rfl⟩
  rw [hk, hz]
  go_wp2_with fail
  refine (be32_any A l.length c0 0 l W0 ((h.below B0).more B0.size) (by have := HL.out; have := HH.out; omega)).mono ?_
  rintro e w' ⟨rfl, rfl⟩
  rw [← HI.out]
  have hl36 : 36 ≤ l.length := by have := HL.out; omega
  have h4 : ¬ c0 = 4 := by omega
  have hR4 := cutTo_on (A := A) (n := l.length) (k := 4) (by omega) hc h4 _ _ _ h
  go_wp2_with fail
  generalize Option.map (fun x : Addr => (⟨x.block, x.off + 4, none⟩ : Addr)) A = A4 at *
  refine (cutter_any A4 (l.length - 4) (c0 - 4) W0).mono ?_
  rintro e W1 ⟨rfl, hx1, hE1, hs1⟩
  have HS1 := Lib.hid hs1
  clear hs1
  have B1 := B0.trans (hE1.below B0.size)
  have hb1 := hb0.ext hE1
  go_wp2_with fail
  refine (cut_any W0.heap.size A4 (l.length - 4) (c0 - 4) W1 hx1 (by omega) (by omega)).mono ?_
  rintro e W2 ⟨A5, hC5, rfl, hx2, hg2, hs2⟩
  have HS2 := Lib.hid hs2
  clear hs2
  have B2 := grown_below B1 hg2 (by have := B0.size; have := HS1.out; omega) B0.size
  have hb2 := hb1.grown hg2 (by simp; have := s0.out; omega)
  have hR36 := hC5 _ _ _ hR4
  have hrr : Rd W2 w.heap.size 1 A4 32 (bcells r) := by
    have := (hR4.front (k := 32) (by omega)).below B2
    rw [HR.out]
    simp only [bcells, List.map_take, List.map_drop, Nat.mul_one] at this ⊢
    exact this
  obtain ⟨rb, ro, rfl, _, hrange⟩ := hrr.range (by omega)
  have hl32 : Hid ((bcells r).length = 32) := Lib.hid (by rw [bcells_length]; exact rL.out)
  have harr := fun W => run_arrayAt (P := Try.prog) W Try.underlying29 (some ⟨rb, ro, none⟩) 32 (c0 - 4) (Nat.le_refl _)
  have hsg := Blk.new W2 96 (zsig ++ #[Value.int .i64 0])
  have hk36 : Hid ((sigCells idx r (.slice none 0 0) (.slice none 0 0) ++ [Value.int .i64 (hgt o)]).toArray.size = 36) := Lib.hid (by simp [sigCells, bcells_length, rL.out])
  clear hR4 hC5 hx1 hE1 hg2 hb0 hb1
  go_wp2_with (first
    | ((with_reducible refine at_load 29 ?_); refine wpList_load_mid rfl 29 _ rfl rb ro rfl (bcells r) _ hrange Try.underlying29 rfl (by rw [hl32.out]; exact infNode) ?_)
    | ((with_reducible refine at_build 32 ?_); refine wpList_buildV W2 rfl #[(0, .int .u32 idx), (1, .agg (bcells r).toArray)] rfl ?_ (hb35 W2) ?_; (simp [Act.eval, Act.put]))
    | ((with_reducible refine at_build 96 ?_); refine wpList_buildV W2 rfl #[(0, .agg (sigCells idx r (.slice none 0 0) (.slice none 0 0)).toArray), (1, .int .i64 (hgt o : Nat))] rfl ?_ (hb36 W2) ?_; (simp [Act.eval]))
    | ((with_reducible refine at_store 96 ?_); refine wpList_storeAll _ rfl 96 _ _ rfl W2.heap.size 96 _ _ hsg rfl rfl (by rw [hk36.out]; kernel_rfl) (by rw [hk36.out]; exact inf36) (sg_one _ _ _ _ _ rfl rfl rfl) ?_; intro W3 hb3 hg3 hs3))
  have hgx0 : w.heap.size ≤ W0.heap.size := B0.size
  have hg0 : w.heap.size ≤ W2.heap.size := B2.size
  have hgg : ¬ W2.heap.size = W0.heap.size := by have := HS1.out; have := HS2.out; omega
  have hgw : ¬ W2.heap.size = w.heap.size := by have := HS1.out; have := HS2.out; have := s0.out; omega
  have hgw' : ¬ W0.heap.size = w.heap.size := by have := s0.out; omega
  have B3 := grown_below (B2.alloc B2.size _) hg3 (by have := B2.size; simp; omega) B2.size
  have hx3 := (hx2.alloc (.cells (zsig ++ #[Value.int .i64 0]) 96)).grown hg3 (by simp; omega)
  have hz3 := (hb2.alloc (.cells (zsig ++ #[Value.int .i64 0]) 96)).grown hg3 (by simp; omega)
  have start : Loop1 w W2.heap.size W0.heap.size idx r l (hgt o) 0 W3 := by
    refine ⟨⟨A5, c0 - 4 - 32, ?_, by omega, ?_⟩, B3, hz3, none, 0, hb3, World.ownsRow_nil _ _ _ _⟩
    · rw [show l.length - (36 + 32 * 0) = l.length - 4 - 32 by omega]; exact hx3
    · rw [show l.length - (36 + 32 * 0) = l.length - 4 - 32 by omega]
      simp only [bcells, List.map_drop, List.drop_drop] at hR36 ⊢
      exact hR36
  generalize W2.heap.size = g13 at *
  generalize W0.heap.size = gx at *
  clear hsg hrange hg3 hs3 B3 hx3 hz3 hb3 hb2 hx2 hR36 hrr HS1 HS2 s0 B2 B1 B0 harr hb35 hb36
  go_loopw [48] (fun i wr => ∃ k : Nat, k ≤ 67 ∧ i = .int .i64 k ∧ Loop1 w g13 gx idx r l (hgt o) k wr) (fun i _ => 67 - (intOf i).toNat)
  case atStart => exact ⟨0, by omega, rfl, start⟩
  case round =>
    obtain ⟨k, hk67, rfl, hrel⟩ := hrel
    by_cases hlt : k < 67
    · go_wp2_with fail
      obtain ⟨⟨Ax, cx, hX, hncx, hRx⟩, B9, hZ, A, c, hS, hO⟩ := hrel
      obtain ⟨nx, hnxe⟩ : ∃ nx, nx = l.length - (36 + 32 * k) := ⟨_, rfl⟩
      rw [← hnxe] at hX hncx hRx
      have HNX := Lib.hid hnxe
      clear hnxe
      have hnx : 32 ≤ nx := by have := HNX.out; have := HL.out; omega
      have hszw := B9.size
      have hgl := hS.lt
      have hog : ¬ (Value.slice A k c).ownBlock = some g13 := fun e => own_ne hO hS (by decide) e rfl
      have hox : ¬ (Value.slice A k c).ownBlock = some gx := fun e => own_ne hO hX (by decide) e rfl
      have hoz : ¬ (Value.slice A k c).ownBlock = some w.heap.size := fun e => own_ne hO hZ (by decide) e rfl
      obtain ⟨ns, hns⟩ : ∃ ns, ns = nodesAt l 0 k := ⟨_, rfl⟩
      rw [← hns] at hO
      obtain ⟨nd, hnde⟩ : ∃ nd, nd = nodeAt l k := ⟨_, rfl⟩
      have hnd : Rd wr.drew w.heap.size 1 Ax 32 (bcells nd) := by
        have := ((hRx.front (k := 32) (by omega)).below B9).drew
        rw [hnde, nodeAt]
        simp only [bcells, List.map_take, List.map_drop, Nat.mul_one] at this ⊢
        exact this
      have ndL : Hid (nd.length = 32) := Lib.hid (by rw [hnde]; exact nodeAt_length l k (by have := HL.out; omega))
      have HNS := Lib.hid hns
      have HND := Lib.hid hnde
      clear hns hnde
      refine Flow.wp_region_flow (w.heap.size) [(4, fun b => b = gx), (8, fun b => (Value.slice A k c).ownBlock = some b), (11, fun b => b = g13)] [(2, fun W => Blk W g13 96 (sigCells idx r (.slice A k c) (.slice none 0 0) ++ [Value.int .i64 (hgt o)]).toArray), (4, fun W => Blk W gx 27 #[.slice Ax nx cx]), (8, fun W => W.ownsRow w.heap.size 29 32 (.slice A k c) k (ncells ns)), (11, fun W => Blk W g13 96 (sigCells idx r (.slice A k c) (.slice none 0 0) ++ [Value.int .i64 (hgt o)]).toArray), (12, fun W => Blk W w.heap.size 32 zsig)] (by kernel_rfl) (by kernel_rfl) B9.size (Flow.nz_cons (by rintro b rfl; exact hgx0) (Flow.nz_cons (fun b hb => (own_some hO hb).1) (Flow.nz_cons (by rintro b rfl; exact hg0) Flow.nz_nil))) (Flow.facts_cons (hS.drew) (Flow.kept_blk id) (Flow.fz_cons (fun _ => Flow.kept_blk hgg) (Flow.fz_cons (Flow.no_follow (by kernel_rfl)) (Flow.fz_cons (Flow.no_follow (by kernel_rfl)) Flow.fz_nil))) (Flow.facts_cons (hX.drew) (Flow.kept_blk id) (Flow.fz_cons (Flow.no_follow (by kernel_rfl)) (Flow.fz_cons (Flow.no_follow (by kernel_rfl)) (Flow.fz_cons (Flow.no_follow (by kernel_rfl)) Flow.fz_nil))) (Flow.facts_cons (hO.drew) (Flow.kept_own (fun _ _ => id)) (Flow.fz_cons (fun _ => Flow.kept_own (fun b hb e => hox (e ▸ hb))) (Flow.fz_cons (Flow.no_follow (by kernel_rfl)) (Flow.fz_cons (Flow.no_follow (by kernel_rfl)) Flow.fz_nil))) (Flow.facts_cons (hS.drew) (Flow.kept_blk id) (Flow.fz_cons (fun _ => Flow.kept_blk hgg) (Flow.fz_cons (fun _ => Flow.kept_blk hog) (Flow.fz_cons (Flow.no_follow (by kernel_rfl)) Flow.fz_nil))) (Flow.facts_cons (hZ.drew) (Flow.kept_blk id) (Flow.fz_cons (fun _ => Flow.kept_blk (fun e => hgw' e.symm)) (Flow.fz_cons (fun _ => Flow.kept_blk hoz) (Flow.fz_cons (fun _ => Flow.kept_blk (fun e => hgw e.symm)) Flow.fz_nil))) Flow.facts_nil))))) ?_
      apply Flow.pass_val (hm := (Flow.met_none rfl))
      · intro a W hH
        have e0 := Flow.see_old 13 hH.sees (by kernel_rfl) (by kernel_rfl) rfl
        go_simp; first | done | rfl
      refine Flow.pass_val (.pointer (some ⟨g13, 33, none⟩)) (Flow.met_none rfl) (fun a W hH => ?_) ?_
      · have e0 := Flow.see_new 50 0 hH.sees (by kernel_rfl) (by kernel_rfl) rfl rfl
        go_simp
      refine Flow.pass_val (.slice A k c) (Flow.met_none rfl) (fun a W hH => ?_) ?_
      · have e0 := Flow.see_new 51 1 hH.sees (by kernel_rfl) (by kernel_rfl) rfl rfl
        have fa0 : (fun W => Blk W g13 96 (sigCells idx r (.slice A k c) (.slice none 0 0) ++ [Value.int .i64 (hgt o)]).toArray) W := hH.fact _ (List.mem_of_getElem? (i := 0) rfl) rfl
        have cf := (sig_cell rL.out fa0).2.1; go_simp
      refine Flow.pass_old (X := .func (.func 72) #[] #[.pointer (some ⟨gx, 0, none⟩)]) 12 (Flow.met_none rfl) (.inl rfl) (by kernel_rfl) (by kernel_rfl) rfl ?_
      refine Flow.pass_gen (fun v W => ∃ A2, v = .slice Ax 32 cx ∧ (CutTo Ax A2 nx 32 ∧ Blk W gx 27 #[.slice A2 (nx - 32) (cx - 32)])) (Flow.kept_of (fun _ _ _ c ⟨A2, h1, h2, h3⟩ => ⟨A2, h1, h2, h3.chg c id⟩) (Flow.kz_cons (Flow.no_follow (by kernel_rfl)) (Flow.kz_cons (fun _ => fun _ _ _ c ⟨A2, h1, h2, h3⟩ => ⟨A2, h1, h2, h3.chg c hox⟩) (Flow.kz_cons (fun _ => fun _ _ _ c ⟨A2, h1, h2, h3⟩ => ⟨A2, h1, h2, h3.chg c (fun e => hgg e.symm)⟩) Flow.kz_nil)))) (Flow.met_none rfl) (fun a W hH => ?_) ?_
      · have e0 := Flow.see_new 53 3 hH.sees (by kernel_rfl) (by kernel_rfl) rfl rfl
        have fa1 : (fun W => Blk W gx 27 #[.slice Ax nx cx]) W := hH.fact _ (List.mem_of_getElem? (i := 1) rfl) rfl
        refine Flow.wp_callF rfl e0 Try.func72 rfl (by kernel_rfl) (by simp [Act.eval]) (cut_any gx Ax nx cx W fa1 hnx hncx) ?_
        rintro e w' ⟨A2, hC, rfl, hb2, hg2, _⟩
        exact ⟨_, rfl, Chg.grown hg2 (by rintro k h; cases h; rfl), A2, rfl, hC, hb2⟩
      refine Flow.pass_val (.pointer Ax) (Flow.met_none rfl) (fun a W hH => ?_) ?_
      · obtain ⟨A20, e0, q0⟩ := Flow.see_up 54 4 hH.sees (by kernel_rfl) (by kernel_rfl) rfl rfl
        exact Flow.reg_array _ rfl e0 Try.underlying29 (Nat.le_refl _)
      refine Flow.pass_val (.agg (bcells nd).toArray) (Flow.met_none rfl) (fun a W hH => ?_) ?_
      · have e0 := Flow.see_new 55 5 hH.sees (by kernel_rfl) (by kernel_rfl) rfl rfl
        exact reg_loadRd 29 _ rfl e0 (hnd.below hH.below) Try.underlying29 rfl (by rw [List.size_toArray, bcells_length, ndL.out]; exact infNode) (by rw [bcells_length, ndL.out]; omega)
      refine Flow.pass_gen (fun v W => ∃ b, v = .slice (some ⟨b, 0, none⟩) 1 1 ∧ (wr.heap.size ≤ b ∧ Blk W b 29 (bcells nd).toArray)) (Flow.kept_of (fun _ _ _ c ⟨b, h1, h2, h3⟩ => ⟨b, h1, h2, h3.chg c id⟩) (Flow.kz_cons (Flow.no_follow (by kernel_rfl)) (Flow.kz_cons (fun _ => fun _ _ _ c ⟨b, h1, h2, h3⟩ => ⟨b, h1, h2, h3.chg c (fun hb => by have := (own_some hO hb).2; omega)⟩) (Flow.kz_cons (fun _ => fun _ _ _ c ⟨b, h1, h2, h3⟩ => ⟨b, h1, h2, h3.chg c (fun e => by have e2 : b = g13 := e; omega)⟩) Flow.kz_nil)))) (Flow.met_none rfl) (fun a W hH => ?_) ?_
      · have e0 := Flow.see_new 56 6 hH.sees (by kernel_rfl) (by kernel_rfl) rfl rfl
        refine Flow.wp_run (Flow.reg_buildSlice _ rfl (by simp [Act.eval, e0]) (run_node1 W nd ndL.out)) ?_
        exact ⟨_, rfl, Chg.of_ext ((Ext.refl W).alloc _), W.heap.size, rfl, hH.below.size, Blk.new _ _ _⟩
      refine Flow.pass_list (fun v W => ∃ A1 c1, v = .slice A1 (k + 1) c1 ∧ (W.ownsRow w.heap.size 29 32 (.slice A1 (k + 1) c1) (k + 1) ((ncells ns) ++ bcells nd) ∧ ∀ b, (Value.slice A1 (k + 1) c1).ownBlock = some b → (Value.slice A k c).ownBlock = some b ∨ wr.heap.size ≤ b)) (Flow.kept_of (fun _ _ _ c ⟨A1, c1, h1, h2, h3⟩ => ⟨A1, c1, h1, own_chg h2 c (fun _ _ => id), h3⟩) (Flow.kz_cons (Flow.no_follow (by kernel_rfl)) (Flow.kz_cons (Flow.no_follow (by kernel_rfl)) (Flow.kz_cons (fun _ => fun _ _ _ c ⟨A1, c1, h1, h2, h3⟩ => ⟨A1, c1, h1, own_chg h2 c (fun b hb e => by have e2 : b = g13 := e; subst e2; rcases h3 _ hb with h4 | h4; exact hog h4; omega), h3⟩) Flow.kz_nil)))) (Flow.met_none rfl) (fun a W hH => ?_) ?_
      · have e0 := Flow.see_new 52 2 hH.sees (by kernel_rfl) (by kernel_rfl) rfl rfl
        obtain ⟨b1, e1, q1⟩ := Flow.see_up 57 7 hH.sees (by kernel_rfl) (by kernel_rfl) rfl rfl
        have fa2 : (fun W => W.ownsRow w.heap.size 29 32 (.slice A k c) k (ncells ns)) W := hH.fact _ (List.mem_of_getElem? (i := 2) rfl) rfl
        refine wpList_app W elN rfl _ _ rfl w.heap.size A k c _ (by simpa [Act.eval] using e0) fa2 W.heap.size (some ⟨b1, 0, none⟩) 1 1 (bcells nd) (by simpa [Act.eval] using e1) (by have := q1.2.rd (size := 32) (n := 1) (by simp [bcells_length, ndL.out]); simpa using this) (bcells_one nd) (by omega) (by omega) (Nat.le_trans hszw hH.below.size) ?_
        intro A1 c1 W2 hO2 hg hB hob
        refine Flow.qq_nil ⟨_, rfl, Chg.grown hg (fun b hb => hb), A1, c1, rfl, hO2, fun b hb => ?_⟩
        rcases hob with h4 | h4
        · left; rw [← h4]; exact hb
        · right; rw [hb] at h4; cases h4; exact hH.below.size
      apply Flow.pass_val (hm := (Flow.met_none rfl))
      · intro a W hH
        have e0 := Flow.see_old 13 hH.sees (by kernel_rfl) (by kernel_rfl) rfl
        go_simp; first | done | rfl
      refine Flow.pass_val (.pointer (some ⟨g13, 33, none⟩)) (Flow.met_none rfl) (fun a W hH => ?_) ?_
      · have e0 := Flow.see_new 59 9 hH.sees (by kernel_rfl) (by kernel_rfl) rfl rfl
        go_simp
      refine Flow.pass_gen (fun _ W => ∃ A1 c1, Blk W g13 96 (sigCells idx r (.slice A1 (k + 1) c1) (.slice none 0 0) ++ [Value.int .i64 (hgt o)]).toArray ∧ (W.ownsRow w.heap.size 29 32 (.slice A1 (k + 1) c1) (k + 1) ((ncells ns) ++ bcells nd) ∧ ∀ b, (Value.slice A1 (k + 1) c1).ownBlock = some b → (Value.slice A k c).ownBlock = some b ∨ wr.heap.size ≤ b)) (Flow.kept_of (fun _ _ _ c ⟨A1, c1, h1, h2, h3⟩ => ⟨A1, c1, h1.chg c id, own_chg h2 c (fun _ _ => id), h3⟩) (Flow.kz_cons (Flow.no_follow (by kernel_rfl)) (Flow.kz_cons (Flow.no_follow (by kernel_rfl)) (Flow.kz_cons (Flow.no_follow (by kernel_rfl)) Flow.kz_nil)))) (Flow.met_none rfl) (fun a W hH => ?_) ?_
      · have e0 := Flow.see_new 60 10 hH.sees (by kernel_rfl) (by kernel_rfl) rfl rfl
        obtain ⟨A11, c11, e1, q1⟩ := Flow.see_up 58 8 hH.sees (by kernel_rfl) (by kernel_rfl) rfl rfl
        have fa3 : (fun W => Blk W g13 96 (sigCells idx r (.slice A k c) (.slice none 0 0) ++ [Value.int .i64 (hgt o)]).toArray) W := hH.fact _ (List.mem_of_getElem? (i := 3) rfl) rfl
        refine wp_skip (reg_storeSlice rfl (by kernel_rfl) fa3 e0 e1 (by rw [sg36 idx r _ _ _ rL.out]; omega)) ?_
        obtain ⟨hO2, hob⟩ := q1
        refine ⟨_, rfl, Chg.grown (grown_set W g13 33 _) (by rintro k h; cases h; rfl), A11, c11, ?_, own_chg hO2 (Chg.grown (grown_set W g13 33 _) (Z := fun b => b = g13) (by rintro k h; cases h; rfl)) (fun b hb e => by have e2 : b = g13 := e; subst e2; rcases hob _ hb with h4 | h4; exact hog h4; omega), hob⟩
        have := fa3.set_ 33 (.slice A11 (k + 1) c11)
        rwa [sg_set33 idx r _ _ _ _ rL.out] at this
      refine Flow.pass_end [none, none, none, none, none, none, none, none, none, none, none, none, none, none, none, none, none, none, none, none, none, none, none, none, none, none, none, none, none, none, none, none, none, none, none, none, none, none, none, none, none, none, none, none, none, none, none, none, none, none, some 50, some 51, some 52, some 53, some 54, some 55, some 56, some 57, some 58, some 59, some 60, none, none, none, none, none, none, none, none, none, none, none, none, none, none, none, none, none, none, none, none, none, none] (by kernel_rfl) ?_
      intro f g w9 hB hfa hT hfg
      have F4 : (fun W => Blk W w.heap.size 32 zsig) w9 := hfa _ (List.mem_of_getElem? (i := 4) rfl) (Nat.le_refl _)
      obtain ⟨A2, _, hC2, hb2⟩ := hT 4 _ (by kernel_rfl) rfl
      obtain ⟨A3, c3, hS3, hO3, _⟩ := hT 11 _ (by kernel_rfl) rfl
      have nxt : Loop1 w g13 gx idx r l (hgt o) (k + 1) w9 := by
        refine ⟨⟨A2, cx - 32, ?_, ?_, ?_⟩, B9.drew.trans hB, F4, A3, c3, hS3, ?_⟩
        · have : l.length - (36 + 32 * (k + 1)) = nx - 32 := by have := HNX.out; omega
          rw [this]; exact hb2
        · have := HNX.out; omega
        · have h1 := hC2 _ _ _ hRx
          have : l.length - (36 + 32 * (k + 1)) = nx - 32 := by have := HNX.out; omega
          rw [this]
          simp only [bcells, List.map_drop, List.drop_drop] at h1 ⊢
          rw [show 36 + 32 * (k + 1) = 36 + 32 * k + 32 by omega]
          exact h1
        · rw [nodesAt_succ, ncells_snoc, Nat.zero_add, ← HNS.out, ← HND.out]
          exact hO3
      simp only [Reg.sel]
      clear hT hfg hfa F4 hB hS3 hO3 hC2 hb2 hS hO hX hZ hRx hnd
      go_wp2
      go_roundw
      case rel => exact ⟨k + 1, by omega, by go_num, nxt⟩
      case measure => simp [intOf]; omega
    · obtain rfl : k = 67 := by omega
      obtain ⟨hBx, B9, hZ, A, c, hS, hO⟩ := hrel
      have start2 : Loop2 w g13 gx idx r l (hgt o) 0 wr := ⟨hBx, B9, hZ, A, c, none, 0, hS, World.ownsRow_nil _ _ _ _, hO, fun b _ h => by cases h⟩
      clear hBx B9 hZ hS hO start
      go_wp2_with fail
      have hh := HH.out
      go_loopw [63] (fun i wr => ∃ k : Nat, k ≤ hgt o ∧ i = .int .i64 k ∧ Loop2 w g13 gx idx r l (hgt o) k wr) (fun i _ => 20 - (intOf i).toNat)
      case atStart => exact ⟨0, by omega, rfl, start2⟩
      case round =>
        obtain ⟨k, hkh, rfl, hrel⟩ := hrel
        by_cases hlt : k < hgt o
        · go_wp2_with fail
          obtain ⟨⟨Ax, cx, hX, hncx, hRx⟩, B9, hZ, Ao, co, A, c, hS, hO, hOo, hoo⟩ := hrel
          obtain ⟨nx, hnxe⟩ : ∃ nx, nx = l.length - (36 + 32 * (67 + k)) := ⟨_, rfl⟩
          rw [← hnxe] at hX hncx hRx
          have HNX := Lib.hid hnxe
          clear hnxe
          have hnx : 32 ≤ nx := by have := HNX.out; have := HL.out; omega
          have hszw := B9.size
          have hgl := hS.lt
          have hog : ¬ (Value.slice A k c).ownBlock = some g13 := fun e => own_ne hO hS (by decide) e rfl
          have hox : ¬ (Value.slice A k c).ownBlock = some gx := fun e => own_ne hO hX (by decide) e rfl
          have hoz : ¬ (Value.slice A k c).ownBlock = some w.heap.size := fun e => own_ne hO hZ (by decide) e rfl
          have hoog : ¬ (Value.slice Ao 67 co).ownBlock = some g13 := fun e => own_ne hOo hS (by decide) e rfl
          have hoox : ¬ (Value.slice Ao 67 co).ownBlock = some gx := fun e => own_ne hOo hX (by decide) e rfl
          obtain ⟨ns, hns⟩ : ∃ ns, ns = nodesAt l 67 k := ⟨_, rfl⟩
          rw [← hns] at hO
          obtain ⟨no, hno⟩ : ∃ no, no = nodesAt l 0 67 := ⟨_, rfl⟩
          rw [← hno] at hOo
          obtain ⟨nd, hnde⟩ : ∃ nd, nd = nodeAt l (67 + k) := ⟨_, rfl⟩
          have hnd : Rd wr.drew w.heap.size 1 Ax 32 (bcells nd) := by
            have := ((hRx.front (k := 32) (by omega)).below B9).drew
            rw [hnde, nodeAt]
            simp only [bcells, List.map_take, List.map_drop, Nat.mul_one] at this ⊢
            exact this
          have ndL : Hid (nd.length = 32) := Lib.hid (by rw [hnde]; exact nodeAt_length l _ (by have := HL.out; omega))
          have HNS := Lib.hid hns
          have HNO := Lib.hid hno
          have HND := Lib.hid hnde
          clear hns hnde hno
          refine Flow.wp_region_flow (w.heap.size) [(4, fun b => b = gx), (8, fun b => (Value.slice A k c).ownBlock = some b), (11, fun b => b = g13)] [(2, fun W => Blk W g13 96 (sigCells idx r (.slice Ao 67 co) (.slice A k c) ++ [Value.int .i64 (hgt o)]).toArray), (4, fun W => Blk W gx 27 #[.slice Ax nx cx]), (8, fun W => W.ownsRow w.heap.size 29 32 (.slice A k c) k (ncells ns)), (11, fun W => Blk W g13 96 (sigCells idx r (.slice Ao 67 co) (.slice A k c) ++ [Value.int .i64 (hgt o)]).toArray), (12, fun W => W.ownsRow w.heap.size 29 32 (.slice Ao 67 co) 67 (ncells no)), (12, fun W => Blk W w.heap.size 32 zsig)] (by kernel_rfl) (by kernel_rfl) B9.size (Flow.nz_cons (by rintro b rfl; exact hgx0) (Flow.nz_cons (fun b hb => (own_some hO hb).1) (Flow.nz_cons (by rintro b rfl; exact hg0) Flow.nz_nil))) (Flow.facts_cons (hS.drew) (Flow.kept_blk id) (Flow.fz_cons (fun _ => Flow.kept_blk hgg) (Flow.fz_cons (Flow.no_follow (by kernel_rfl)) (Flow.fz_cons (Flow.no_follow (by kernel_rfl)) Flow.fz_nil))) (Flow.facts_cons (hX.drew) (Flow.kept_blk id) (Flow.fz_cons (Flow.no_follow (by kernel_rfl)) (Flow.fz_cons (Flow.no_follow (by kernel_rfl)) (Flow.fz_cons (Flow.no_follow (by kernel_rfl)) Flow.fz_nil))) (Flow.facts_cons (hO.drew) (Flow.kept_own (fun _ _ => id)) (Flow.fz_cons (fun _ => Flow.kept_own (fun b hb e => hox (e ▸ hb))) (Flow.fz_cons (Flow.no_follow (by kernel_rfl)) (Flow.fz_cons (Flow.no_follow (by kernel_rfl)) Flow.fz_nil))) (Flow.facts_cons (hS.drew) (Flow.kept_blk id) (Flow.fz_cons (fun _ => Flow.kept_blk hgg) (Flow.fz_cons (fun _ => Flow.kept_blk hog) (Flow.fz_cons (Flow.no_follow (by kernel_rfl)) Flow.fz_nil))) (Flow.facts_cons (hOo.drew) (Flow.kept_own (fun _ _ => id)) (Flow.fz_cons (fun _ => Flow.kept_own (fun b hb e => hoox (e ▸ hb))) (Flow.fz_cons (fun _ => Flow.kept_own (fun b hb e => hoo b hb e)) (Flow.fz_cons (fun _ => Flow.kept_own (fun b hb e => hoog (e ▸ hb))) Flow.fz_nil))) (Flow.facts_cons (hZ.drew) (Flow.kept_blk id) (Flow.fz_cons (fun _ => Flow.kept_blk (fun e => hgw' e.symm)) (Flow.fz_cons (fun _ => Flow.kept_blk hoz) (Flow.fz_cons (fun _ => Flow.kept_blk (fun e => hgw e.symm)) Flow.fz_nil))) Flow.facts_nil)))))) ?_
          apply Flow.pass_val (hm := (Flow.met_none rfl))
          · intro a W hH
            have e0 := Flow.see_old 13 hH.sees (by kernel_rfl) (by kernel_rfl) rfl
            go_simp; first | done | rfl
          refine Flow.pass_val (.pointer (some ⟨g13, 34, none⟩)) (Flow.met_none rfl) (fun a W hH => ?_) ?_
          · have e0 := Flow.see_new 65 0 hH.sees (by kernel_rfl) (by kernel_rfl) rfl rfl
            go_simp
          refine Flow.pass_val (.slice A k c) (Flow.met_none rfl) (fun a W hH => ?_) ?_
          · have e0 := Flow.see_new 66 1 hH.sees (by kernel_rfl) (by kernel_rfl) rfl rfl
            have fa0 : (fun W => Blk W g13 96 (sigCells idx r (.slice Ao 67 co) (.slice A k c) ++ [Value.int .i64 (hgt o)]).toArray) W := hH.fact _ (List.mem_of_getElem? (i := 0) rfl) rfl
            have cf := (sig_cell rL.out fa0).2.2.1; go_simp
          refine Flow.pass_old (X := .func (.func 72) #[] #[.pointer (some ⟨gx, 0, none⟩)]) 12 (Flow.met_none rfl) (.inl rfl) (by kernel_rfl) (by kernel_rfl) rfl ?_
          refine Flow.pass_gen (fun v W => ∃ A2, v = .slice Ax 32 cx ∧ (CutTo Ax A2 nx 32 ∧ Blk W gx 27 #[.slice A2 (nx - 32) (cx - 32)])) (Flow.kept_of (fun _ _ _ c ⟨A2, h1, h2, h3⟩ => ⟨A2, h1, h2, h3.chg c id⟩) (Flow.kz_cons (Flow.no_follow (by kernel_rfl)) (Flow.kz_cons (fun _ => fun _ _ _ c ⟨A2, h1, h2, h3⟩ => ⟨A2, h1, h2, h3.chg c hox⟩) (Flow.kz_cons (fun _ => fun _ _ _ c ⟨A2, h1, h2, h3⟩ => ⟨A2, h1, h2, h3.chg c (fun e => hgg e.symm)⟩) Flow.kz_nil)))) (Flow.met_none rfl) (fun a W hH => ?_) ?_
          · have e0 := Flow.see_new 68 3 hH.sees (by kernel_rfl) (by kernel_rfl) rfl rfl
            have fa1 : (fun W => Blk W gx 27 #[.slice Ax nx cx]) W := hH.fact _ (List.mem_of_getElem? (i := 1) rfl) rfl
            refine Flow.wp_callF rfl e0 Try.func72 rfl (by kernel_rfl) (by simp [Act.eval]) (cut_any gx Ax nx cx W fa1 hnx hncx) ?_
            rintro e w' ⟨A2, hC, rfl, hb2, hg2, _⟩
            exact ⟨_, rfl, Chg.grown hg2 (by rintro k h; cases h; rfl), A2, rfl, hC, hb2⟩
          refine Flow.pass_val (.pointer Ax) (Flow.met_none rfl) (fun a W hH => ?_) ?_
          · obtain ⟨A20, e0, q0⟩ := Flow.see_up 69 4 hH.sees (by kernel_rfl) (by kernel_rfl) rfl rfl
            exact Flow.reg_array _ rfl e0 Try.underlying29 (Nat.le_refl _)
          refine Flow.pass_val (.agg (bcells nd).toArray) (Flow.met_none rfl) (fun a W hH => ?_) ?_
          · have e0 := Flow.see_new 70 5 hH.sees (by kernel_rfl) (by kernel_rfl) rfl rfl
            exact reg_loadRd 29 _ rfl e0 (hnd.below hH.below) Try.underlying29 rfl (by rw [List.size_toArray, bcells_length, ndL.out]; exact infNode) (by rw [bcells_length, ndL.out]; omega)
          refine Flow.pass_gen (fun v W => ∃ b, v = .slice (some ⟨b, 0, none⟩) 1 1 ∧ (wr.heap.size ≤ b ∧ Blk W b 29 (bcells nd).toArray)) (Flow.kept_of (fun _ _ _ c ⟨b, h1, h2, h3⟩ => ⟨b, h1, h2, h3.chg c id⟩) (Flow.kz_cons (Flow.no_follow (by kernel_rfl)) (Flow.kz_cons (fun _ => fun _ _ _ c ⟨b, h1, h2, h3⟩ => ⟨b, h1, h2, h3.chg c (fun hb => by have := (own_some hO hb).2; omega)⟩) (Flow.kz_cons (fun _ => fun _ _ _ c ⟨b, h1, h2, h3⟩ => ⟨b, h1, h2, h3.chg c (fun e => by have e2 : b = g13 := e; omega)⟩) Flow.kz_nil)))) (Flow.met_none rfl) (fun a W hH => ?_) ?_
          · have e0 := Flow.see_new 71 6 hH.sees (by kernel_rfl) (by kernel_rfl) rfl rfl
            refine Flow.wp_run (Flow.reg_buildSlice _ rfl (by simp [Act.eval, e0]) (run_node1 W nd ndL.out)) ?_
            exact ⟨_, rfl, Chg.of_ext ((Ext.refl W).alloc _), W.heap.size, rfl, hH.below.size, Blk.new _ _ _⟩
          refine Flow.pass_list (fun v W => ∃ A1 c1, v = .slice A1 (k + 1) c1 ∧ (W.ownsRow w.heap.size 29 32 (.slice A1 (k + 1) c1) (k + 1) ((ncells ns) ++ bcells nd) ∧ ∀ b, (Value.slice A1 (k + 1) c1).ownBlock = some b → (Value.slice A k c).ownBlock = some b ∨ wr.heap.size ≤ b)) (Flow.kept_of (fun _ _ _ c ⟨A1, c1, h1, h2, h3⟩ => ⟨A1, c1, h1, own_chg h2 c (fun _ _ => id), h3⟩) (Flow.kz_cons (Flow.no_follow (by kernel_rfl)) (Flow.kz_cons (Flow.no_follow (by kernel_rfl)) (Flow.kz_cons (fun _ => fun _ _ _ c ⟨A1, c1, h1, h2, h3⟩ => ⟨A1, c1, h1, own_chg h2 c (fun b hb e => by have e2 : b = g13 := e; subst e2; rcases h3 _ hb with h4 | h4; exact hog h4; omega), h3⟩) Flow.kz_nil)))) (Flow.met_none rfl) (fun a W hH => ?_) ?_
          · have e0 := Flow.see_new 67 2 hH.sees (by kernel_rfl) (by kernel_rfl) rfl rfl
            obtain ⟨b1, e1, q1⟩ := Flow.see_up 72 7 hH.sees (by kernel_rfl) (by kernel_rfl) rfl rfl
            have fa2 : (fun W => W.ownsRow w.heap.size 29 32 (.slice A k c) k (ncells ns)) W := hH.fact _ (List.mem_of_getElem? (i := 2) rfl) rfl
            refine wpList_app W elN rfl _ _ rfl w.heap.size A k c _ (by simpa [Act.eval] using e0) fa2 W.heap.size (some ⟨b1, 0, none⟩) 1 1 (bcells nd) (by simpa [Act.eval] using e1) (by have := q1.2.rd (size := 32) (n := 1) (by simp [bcells_length, ndL.out]); simpa using this) (bcells_one nd) (by omega) (by omega) (Nat.le_trans hszw hH.below.size) ?_
            intro A1 c1 W2 hO2 hg hB hob
            refine Flow.qq_nil ⟨_, rfl, Chg.grown hg (fun b hb => hb), A1, c1, rfl, hO2, fun b hb => ?_⟩
            rcases hob with h4 | h4
            · left; rw [← h4]; exact hb
            · right; rw [hb] at h4; cases h4; exact hH.below.size
          apply Flow.pass_val (hm := (Flow.met_none rfl))
          · intro a W hH
            have e0 := Flow.see_old 13 hH.sees (by kernel_rfl) (by kernel_rfl) rfl
            go_simp; first | done | rfl
          refine Flow.pass_val (.pointer (some ⟨g13, 34, none⟩)) (Flow.met_none rfl) (fun a W hH => ?_) ?_
          · have e0 := Flow.see_new 74 9 hH.sees (by kernel_rfl) (by kernel_rfl) rfl rfl
            go_simp
          refine Flow.pass_gen (fun _ W => ∃ A1 c1, Blk W g13 96 (sigCells idx r (.slice Ao 67 co) (.slice A1 (k + 1) c1) ++ [Value.int .i64 (hgt o)]).toArray ∧ (W.ownsRow w.heap.size 29 32 (.slice A1 (k + 1) c1) (k + 1) ((ncells ns) ++ bcells nd) ∧ ∀ b, (Value.slice A1 (k + 1) c1).ownBlock = some b → (Value.slice A k c).ownBlock = some b ∨ wr.heap.size ≤ b)) (Flow.kept_of (fun _ _ _ c ⟨A1, c1, h1, h2, h3⟩ => ⟨A1, c1, h1.chg c id, own_chg h2 c (fun _ _ => id), h3⟩) (Flow.kz_cons (Flow.no_follow (by kernel_rfl)) (Flow.kz_cons (Flow.no_follow (by kernel_rfl)) (Flow.kz_cons (Flow.no_follow (by kernel_rfl)) Flow.kz_nil)))) (Flow.met_none rfl) (fun a W hH => ?_) ?_
          · have e0 := Flow.see_new 75 10 hH.sees (by kernel_rfl) (by kernel_rfl) rfl rfl
            obtain ⟨A11, c11, e1, q1⟩ := Flow.see_up 73 8 hH.sees (by kernel_rfl) (by kernel_rfl) rfl rfl
            have fa3 : (fun W => Blk W g13 96 (sigCells idx r (.slice Ao 67 co) (.slice A k c) ++ [Value.int .i64 (hgt o)]).toArray) W := hH.fact _ (List.mem_of_getElem? (i := 3) rfl) rfl
            refine wp_skip (reg_storeSlice rfl (by kernel_rfl) fa3 e0 e1 (by rw [sg36 idx r _ _ _ rL.out]; omega)) ?_
            obtain ⟨hO2, hob⟩ := q1
            refine ⟨_, rfl, Chg.grown (grown_set W g13 34 _) (by rintro k h; cases h; rfl), A11, c11, ?_, own_chg hO2 (Chg.grown (grown_set W g13 34 _) (Z := fun b => b = g13) (by rintro k h; cases h; rfl)) (fun b hb e => by have e2 : b = g13 := e; subst e2; rcases hob _ hb with h4 | h4; exact hog h4; omega), hob⟩
            have := fa3.set_ 34 (.slice A11 (k + 1) c11)
            rwa [sg_set34 idx r _ _ _ _ rL.out] at this
          refine Flow.pass_end [none, none, none, none, none, none, none, none, none, none, none, none, none, none, none, none, none, none, none, none, none, none, none, none, none, none, none, none, none, none, none, none, none, none, none, none, none, none, none, none, none, none, none, none, none, none, none, none, none, none, none, none, none, none, none, none, none, none, none, none, none, none, none, none, none, some 65, some 66, some 67, some 68, some 69, some 70, some 71, some 72, some 73, some 74, some 75, none, none, none, none, none, none, none] (by kernel_rfl) ?_
          intro f g w9 hB hfa hT hfg
          have F4 : (fun W => W.ownsRow w.heap.size 29 32 (.slice Ao 67 co) 67 (ncells no)) w9 := hfa _ (List.mem_of_getElem? (i := 4) rfl) (Nat.le_refl _)
          have F5 : (fun W => Blk W w.heap.size 32 zsig) w9 := hfa _ (List.mem_of_getElem? (i := 5) rfl) (Nat.le_refl _)
          obtain ⟨A2, _, hC2, hb2⟩ := hT 4 _ (by kernel_rfl) rfl
          obtain ⟨A3, c3, hS3, hO3, hob3⟩ := hT 11 _ (by kernel_rfl) rfl
          have nxt : Loop2 w g13 gx idx r l (hgt o) (k + 1) w9 := by
            refine ⟨⟨A2, cx - 32, ?_, ?_, ?_⟩, B9.drew.trans hB, F5, Ao, co, A3, c3, hS3, ?_, by rw [← HNO.out]; exact F4, ?_⟩
            · have : l.length - (36 + 32 * (67 + (k + 1))) = nx - 32 := by have := HNX.out; omega
              rw [this]; exact hb2
            · have := HNX.out; omega
            · have h1 := hC2 _ _ _ hRx
              have : l.length - (36 + 32 * (67 + (k + 1))) = nx - 32 := by have := HNX.out; omega
              rw [this]
              simp only [bcells, List.map_drop, List.drop_drop] at h1 ⊢
              rw [show 36 + 32 * (67 + (k + 1)) = 36 + 32 * (67 + k) + 32 by omega]
              exact h1
            · rw [nodesAt_succ, ncells_snoc, ← HNS.out, ← HND.out]
              exact hO3
            · intro b hb1 hb2
              rcases hob3 b hb2 with h4 | h4
              · exact hoo b hb1 h4
              · have := (own_some hOo hb1).2
                omega
          simp only [Reg.sel]
          clear hT hfg hfa F4 F5 hB hS3 hO3 hC2 hb2 hS hO hX hZ hRx hnd hob3 hOo hoo
          go_wp2
          go_roundw
          case rel => exact ⟨k + 1, by omega, by go_num, nxt⟩
          case measure => simp [intOf]; omega
        · obtain rfl : k = hgt o := by omega
          obtain ⟨_, B9, hZ, Ao, co, A, c, hS, hO, hOo, _⟩ := hrel
          have hk36 : Hid ((sigCells idx r (.slice Ao 67 co) (.slice A (hgt o) c) ++ [Value.int .i64 (hgt o)]).toArray.size = 36) := Lib.hid (by simp [sigCells, bcells_length, rL.out])
          go_wp2_with ((with_reducible refine at_load 96 ?_); refine wpList_loadAll wr rfl 96 _ rfl g13 96 _ hS _ rfl Try.underlying96 rfl (by rw [hk36.out]; exact inf36) ?_)
          have hidx : idx < 4294967296 := by have := rdNum_lt l 0 4 false; have := HI.out; omega
          refine (may_any idx r rL.out Ao A 67 co (hgt o) c (hgt o) hidx hh wr).mono ?_
          rintro e W4 ⟨rfl, hB4⟩
          have hS := hS.below hB4 hS.lt
          have hZ := hZ.below hB4 hZ.lt
          have r1 := own_chg hOo (Chg.of_ext (Z := fun _ => False) hB4) (fun _ _ => id)
          have r2 := own_chg hO (Chg.of_ext (Z := fun _ => False) hB4) (fun _ _ => id)
          have l1 := Flow.own_le hOo
          have l2 := Flow.own_le hO
          have B4 := B9.trans (hB4.mono B9.size)
          have hs4 := hB4.size
          have hz35 : Hid (zsig.size = 35) := Lib.hid (by kernel_rfl)
          have hk35 : Hid ((sigCells idx r (.slice Ao 67 co) (.slice A (hgt o) c)).toArray.size = 35) := Lib.hid (by simp [sigCells, bcells_length, rL.out])
          clear hO hOo hB4 B9 hk36
          by_cases hb : idx < 2 ^ hgt o
          · have em : may 67 (hgt o) idx (hgt o) = true := by simp [may, hb]
            rw [em]
            have hr0 : W4.rangeAt g13 0 (sigCells idx r (.slice Ao 67 co) (.slice A (hgt o) c)) := fun j v hv => by
              rw [hS.cell, Nat.zero_add, List.getElem?_toArray, List.getElem?_append_left (List.getElem?_eq_some_iff.1 hv).1]; exact hv
            go_wp2_with (first
              | ((with_reducible refine at_load 32 ?_); refine wpList_load_mid rfl 32 _ rfl g13 0 rfl (sigCells idx r (.slice Ao 67 co) (.slice A (hgt o) c)) _ hr0 Try.underlying32 rfl (by have := hk35.out; rw [List.size_toArray] at this; rw [this]; exact inf35) ?_)
              | ((with_reducible refine at_store 32 ?_); refine wpList_storeAll W4 rfl 32 _ _ rfl w.heap.size 32 _ (sigCells idx r (.slice Ao 67 co) (.slice A (hgt o) c)).toArray hZ rfl rfl (by rw [hk35.out, hz35.out]) (by rw [hk35.out]; exact inf35) (sg35_one _ _ _ _ rfl rfl) ?_; intro W5 hb5 hg5 hs5))
            refine bodyPost_ret (results_cell_tmp rfl _ _ w.heap.size _ _ _ _ rfl hb5 Try.underlying32 rfl (by rw [hk35.out]; exact inf35)) rfl ?_
            unfold SigEnd
            rw [if_pos hb]
            refine ⟨Ao, co, A, c, rfl, l1, l2, ?_, ?_, grown_below B4 hg5 B4.size (Nat.le_refl _)⟩
            · exact Rd.of_own (own_chg r1 (Chg.grown (Z := fun b => b = w.heap.size) hg5 (by rintro k h; cases h; rfl)) (fun b hb e => own_ne r1 hZ (by decide) hb e))
            · exact Rd.of_own (own_chg r2 (Chg.grown (Z := fun b => b = w.heap.size) hg5 (by rintro k h; cases h; rfl)) (fun b hb e => own_ne r2 hZ (by decide) hb e))
          · have em : may 67 (hgt o) idx (hgt o) = false := by simp [may, hb]
            rw [em]
            go_wp2_with ((with_reducible refine at_store 32 ?_); refine wpList_storeAll W4 rfl 32 _ _ rfl w.heap.size 32 _ zsig hZ rfl rfl rfl (by rw [hz35.out]; exact inf35) (by decide) ?_; intro W5 hb5 hg5 hs5)
            refine bodyPost_ret (results_cell_tmp rfl _ _ w.heap.size _ _ _ _ rfl hb5 Try.underlying32 rfl (by rw [hz35.out]; exact inf35)) rfl ?_
            unfold SigEnd
            rw [if_neg hb]
            exact ⟨rfl, grown_below B4 hg5 B4.size (Nat.le_refl _)⟩
end Go.Proofs.Ytnjfghlgknnhmaa
