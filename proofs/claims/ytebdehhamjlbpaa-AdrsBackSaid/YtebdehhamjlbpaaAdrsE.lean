/-
  Walks: adrs.Of and the statement AdrsBack.
-/
import Derived.Test.YtebdehhamjlbpaaAdrsC
import Derived.Test.YtebdehhamjlbpaaNum3
namespace Go.Proofs.Ytebdehhamjlbpaa
open Go.RowKit

set_option maxHeartbeats 400000 in
theorem of1_any (g : Nat) (l : List UInt8) (hl : l.length = 32) (p : Int) (w : World) (hb : Blk w g 28 (bcells l).toArray) :
    Calls Try.prog 48 #[.int .i64 p, .pointer (some ⟨g, 0, none⟩)] w fun e w' => e = .returned (.int .u32 (rdNum l p 4 false : Nat)) ∧ w = w' := by
  have hr : Rd w w.heap.size 1 (some ⟨g, 0, none⟩) 32 (bcells l) := by
    have := hb.rd (size := 1) (n := 32) (by simp [bcells_length, hl])
    simpa using this
  have HL := Lib.hid hl
  clear hl
  go_enter Try.func48, Try.ntmps48
  go_wp2_with fail
  refine (be32_any (some ⟨g, 0, none⟩) 32 32 p l w hr (by omega)).mono ?_
  rintro e w' ⟨rfl, rfl⟩
  go_wp2
  go_ret
  exact ⟨rfl, rfl⟩

def adOf (l : List UInt8) : Ad := ⟨rdNum l 0 4 false, rdNum l 4 8 false, rdNum l 12 4 false, rdNum l 16 4 false, rdNum l 20 4 false, rdNum l 24 4 false, rdNum l 28 4 false⟩

set_option maxHeartbeats 1000000 in
theorem aOf_any (l : List UInt8) (hl : l.length = 32) (w : World) : Calls Try.prog 35 #[.agg (bcells l).toArray] w fun e w' => e = .returned (.agg (adOf l).cells) ∧ Below w.heap.size w w' := by
  have HL := Lib.hid hl
  clear hl
  go_enter Try.func35, Try.ntmps35
  go_wp2_with fail
  obtain ⟨W, hW⟩ : ∃ W, W = (w.alloc (.cells (bcells l).toArray 28)).alloc (.cells #[.int .u32 0, .int .u64 0, .int .u32 0, .int .u32 0, .int .u32 0, .int .u32 0, .int .u32 0] 25) := ⟨_, rfl⟩
  have hb : Blk W w.heap.size 28 (bcells l).toArray := by rw [hW]; exact (Blk.new w _ _).alloc _
  have hz : Blk W (w.heap.size + 1) 25 #[.int .u32 0, .int .u64 0, .int .u32 0, .int .u32 0, .int .u32 0, .int .u32 0, .int .u32 0] := by
    rw [hW]
    have := Blk.new (w.alloc (.cells (bcells l).toArray 28)) 25 #[.int .u32 0, .int .u64 0, .int .u32 0, .int .u32 0, .int .u32 0, .int .u32 0, .int .u32 0]
    rwa [World.size_alloc] at this
  have B0 : Below w.heap.size w W := by rw [hW]; exact ((Below.refl _ _).alloc (Nat.le_refl _) _).alloc (by simp) _
  have hr : Rd W W.heap.size 1 (some ⟨w.heap.size, 0, none⟩) 32 (bcells l) := by
    have := hb.rd (size := 1) (n := 32) (by simp [bcells_length, HL.out])
    simpa using this
  rw [← hW]
  clear hW
  refine (be64_any (some ⟨w.heap.size, 0, none⟩) 32 32 4 l W hr (by omega)).mono ?_
  rintro e w' ⟨rfl, rfl⟩
  go_wp2_with fail
  refine (of1_any w.heap.size l HL.out 0 W hb).mono ?_
  rintro e w' ⟨rfl, rfl⟩
  go_wp2_with fail
  refine (of1_any w.heap.size l HL.out 12 W hb).mono ?_
  rintro e w' ⟨rfl, rfl⟩
  go_wp2_with fail
  refine (of1_any w.heap.size l HL.out 16 W hb).mono ?_
  rintro e w' ⟨rfl, rfl⟩
  go_wp2_with fail
  refine (of1_any w.heap.size l HL.out 20 W hb).mono ?_
  rintro e w' ⟨rfl, rfl⟩
  go_wp2_with fail
  refine (of1_any w.heap.size l HL.out 24 W hb).mono ?_
  rintro e w' ⟨rfl, rfl⟩
  go_wp2_with fail
  refine (of1_any w.heap.size l HL.out 28 W hb).mono ?_
  rintro e w' ⟨rfl, rfl⟩
  go_wp2_with fail
  refine (awhole_any (rdNum l 0 4 false) (rdNum l 4 8 false) (rdNum l 12 4 false) (rdNum l 16 4 false) (rdNum l 20 4 false) (rdNum l 24 4 false) (rdNum l 28 4 false) W).mono ?_
  rintro e w2 ⟨rfl, hB⟩
  have hz2 := hz.below hB hz.lt
  have B2 := B0.trans (hB.mono B0.size)
  have hlt := hz.lt
  clear hB hz B0 hb hr
  go_wp2_with (refine wpList_storeAll w2 rfl 25 _ _ rfl (w.heap.size + 1) _ _ (adOf l).cells hz2 rfl rfl rfl infAdrs (by simp [Ad.cells, Value.oneCell']) ?_; intro w3 hb3 hg3 hs3)
  refine bodyPost_ret (results_cell_row rfl _ _ (w.heap.size + 1) _ _ _ _ rfl hb3 Try.underlying25 rfl infAdrs) rfl ⟨rfl, ?_⟩
  exact grown_below B2 hg3 B2.size (by omega)

theorem of_bytes (l t k a b c m : Nat) (h1 : l < 4294967296) (h2 : t < 18446744073709551616) (h3 : k < 4294967296) (h4 : a < 4294967296) (h5 : b < 4294967296) (h6 : c < 4294967296) (h7 : m < 4294967296) :
    adOf (adBytes l t k a b c m) = ⟨l, t, k, a, b, c, m⟩ := by
  have e1 := read_put_mid [] (putNum t 8 false ++ putNum k 4 false ++ putNum a 4 false ++ putNum b 4 false ++ putNum c 4 false ++ putNum m 4 false) l 4 false 0 rfl h1
  have e2 := read_put_mid (putNum l 4 false) (putNum k 4 false ++ putNum a 4 false ++ putNum b 4 false ++ putNum c 4 false ++ putNum m 4 false) t 8 false 4 (by simp [putNum_length]) h2
  have e3 := read_put_mid (putNum l 4 false ++ putNum t 8 false) (putNum a 4 false ++ putNum b 4 false ++ putNum c 4 false ++ putNum m 4 false) k 4 false 12 (by simp [putNum_length]) h3
  have e4 := read_put_mid (putNum l 4 false ++ putNum t 8 false ++ putNum k 4 false) (putNum b 4 false ++ putNum c 4 false ++ putNum m 4 false) a 4 false 16 (by simp [putNum_length]) h4
  have e5 := read_put_mid (putNum l 4 false ++ putNum t 8 false ++ putNum k 4 false ++ putNum a 4 false) (putNum c 4 false ++ putNum m 4 false) b 4 false 20 (by simp [putNum_length]) h5
  have e6 := read_put_mid (putNum l 4 false ++ putNum t 8 false ++ putNum k 4 false ++ putNum a 4 false ++ putNum b 4 false) (putNum m 4 false) c 4 false 24 (by simp [putNum_length]) h6
  have e7 := read_put_mid (putNum l 4 false ++ putNum t 8 false ++ putNum k 4 false ++ putNum a 4 false ++ putNum b 4 false ++ putNum c 4 false) [] m 4 false 28 (by simp [putNum_length]) h7
  simp only [List.append_assoc, List.nil_append, List.append_nil] at e1 e2 e3 e4 e5 e6 e7
  simp only [adOf, adBytes, List.append_assoc]
  exact congr (congr (congr (congr (congr (congr (congrArg Ad.mk e1) e2) e3) e4) e5) e6) e7
theorem bytes_of (n : List UInt8) (hn : n.length = 32) : adBytes (adOf n).layer (adOf n).tree (adOf n).kind (adOf n).a (adOf n).b (adOf n).c (adOf n).mask = n := by
  have r : ∀ p s : Nat, p + s ≤ 32 → putNum (rdNum n p s false) s false = (n.drop p).take s := fun p s h => by rw [rdNum_at _ _ _ _ (by omega), put_read _ _ _ (by omega)]
  have r0 := r 0 4 (by omega)
  have r1 := r 4 8 (by omega)
  have r2 := r 12 4 (by omega)
  have r3 := r 16 4 (by omega)
  have r4 := r 20 4 (by omega)
  have r5 := r 24 4 (by omega)
  have r6 := r 28 4 (by omega)
  have z : (n.drop 28).take 4 = n.drop 28 := List.take_of_length_le (by simp; omega)
  simp only [adBytes, adOf]
  rw [show (rdNum n 0 4 false) = rdNum n ((0 : Nat) : Int) 4 false from rfl, r0]
  rw [show (rdNum n 4 8 false) = rdNum n ((4 : Nat) : Int) 8 false from rfl, r1]
  rw [show (rdNum n 12 4 false) = rdNum n ((12 : Nat) : Int) 4 false from rfl, r2]
  rw [show (rdNum n 16 4 false) = rdNum n ((16 : Nat) : Int) 4 false from rfl, r3]
  rw [show (rdNum n 20 4 false) = rdNum n ((20 : Nat) : Int) 4 false from rfl, r4]
  rw [show (rdNum n 24 4 false) = rdNum n ((24 : Nat) : Int) 4 false from rfl, r5]
  rw [show (rdNum n 28 4 false) = rdNum n ((28 : Nat) : Int) 4 false from rfl, r6, z]
  simp only [List.append_assoc]
  have c0 := cut_cut n 0 4
  have c1 := cut_cut n 4 8
  have c2 := cut_cut n 12 4
  have c3 := cut_cut n 16 4
  have c4 := cut_cut n 20 4
  have c5 := cut_cut n 24 4
  simp only [Nat.reduceAdd] at c0 c1 c2 c3 c4 c5
  rw [c5, c4, c3, c2, c1, c0]; rfl

set_option maxHeartbeats 1000000 in
theorem adrsBack_walk (w : World) (x : Ad) (hx : x.ok) (n : List UInt8) (hn' : n.length = 32) :
    Calls Try.prog 11 #[.agg x.cells, .agg (bcells n).toArray] w fun e w' => e = .returned (.bool true) ∧ Below w.heap.size w w' := by
  obtain ⟨l, t, k, a', b, c, m⟩ := x
  obtain ⟨h1, h2, h3, h4, h5, h6, h7⟩ := hx
  simp only at h1 h2 h3 h4 h5 h6 h7
  show Calls Try.prog 11 #[.agg #[.int .u32 l, .int .u64 t, .int .u32 k, .int .u32 a', .int .u32 b, .int .u32 c, .int .u32 m], .agg (bcells n).toArray] w _
  have HO := Lib.hid (of_bytes l t k a' b c m h1 h2 h3 h4 h5 h6 h7)
  have HN := Lib.hid (bytes_of n hn')
  have HL : Hid ((bcells n).length = 32) := Lib.hid (by rw [bcells_length]; exact hn')
  have hng := nodeGuard
  have hne := fun W => nodeEq n n hn' hn' W
  have hn := Lib.hid hn'
  clear hn' h1 h2 h3 h4 h5 h6 h7
  go_enter Try.func11, Try.ntmps11
  go_wp2_with fail
  refine (awake04 _).mono ?_
  rintro e w1 ⟨rfl, hB1⟩
  have B1 := (((Below.refl w.heap.size w).alloc (Nat.le_refl _) (.cells #[.int .u32 l, .int .u64 t, .int .u32 k, .int .u32 a', .int .u32 b, .int .u32 c, .int .u32 m] 25)).alloc (by simp) (.cells (bcells n).toArray 28)).trans (hB1.mono (by simp; omega))
  have hb0 := (((Blk.new w 25 #[.int .u32 l, .int .u64 t, .int .u32 k, .int .u32 a', .int .u32 b, .int .u32 c, .int .u32 m]).alloc (.cells (bcells n).toArray 28)).below hB1 (by simp; omega)).drew
  have hb1 := (Blk.new (w.alloc (.cells #[.int .u32 l, .int .u64 t, .int .u32 k, .int .u32 a', .int .u32 b, .int .u32 c, .int .u32 m] 25)) 28 (bcells n).toArray).below hB1 (by simp)
  rw [World.size_alloc] at hb1
  have hb1 := hb1.drew
  clear hB1
  go_wp2_with fail
  refine Reg.wp_region_pass (by kernel_rfl) (by kernel_rfl) ?_
  refine Reg.pass_val (.agg #[.int .u32 l, .int .u64 t, .int .u32 k, .int .u32 a', .int .u32 b, .int .u32 c, .int .u32 m]) (Reg.met_none rfl) (fun a w hE hS => ?_) ?_
  · have e0 := Reg.see_old 2 hS (by kernel_rfl) (by kernel_rfl) rfl
    exact reg_load 25 2 rfl e0 (hb0.ext hE) Try.underlying25 rfl infAdrs
  refine Reg.pass_step (Reg.eqs (.agg (bcells (adBytes l t k a' b c m)).toArray)) (Reg.stable_eqs _) (Reg.met_none rfl) (fun a w hE hS => ?_) ?_
  · have e0 := Reg.see_new 7 0 hS (by kernel_rfl) (by kernel_rfl) rfl rfl
    refine Reg.wp_call rfl Try.func15 rfl (by kernel_rfl) (by simp [Act.eval, e0]) (abytes_any l t k a' b c m w) ?_
    rintro e w' ⟨rfl, hB⟩
    exact ⟨_, rfl, _, rfl, hB, rfl⟩
  refine Reg.pass_step (Reg.eqs (.agg #[.int .u32 l, .int .u64 t, .int .u32 k, .int .u32 a', .int .u32 b, .int .u32 c, .int .u32 m])) (Reg.stable_eqs _) (Reg.met_none rfl) (fun a w hE hS => ?_) ?_
  · have e0 := Reg.see_new 8 1 hS (by kernel_rfl) (by kernel_rfl) rfl rfl
    refine Reg.wp_call rfl Try.func35 rfl (by kernel_rfl) (by simp [Act.eval, e0]) (aOf_any (adBytes l t k a' b c m) (adBytes_length _ _ _ _ _ _ _) w) ?_
    rintro e w' ⟨rfl, hB⟩
    rw [HO.out]
    exact ⟨_, rfl, _, rfl, hB, rfl⟩
  refine Reg.pass_val (.agg #[.int .u32 l, .int .u64 t, .int .u32 k, .int .u32 a', .int .u32 b, .int .u32 c, .int .u32 m]) (Reg.met_none rfl) (fun a w hE hS => ?_) ?_
  · have e0 := Reg.see_old 2 hS (by kernel_rfl) (by kernel_rfl) rfl
    exact reg_load 25 2 rfl e0 (hb0.ext hE) Try.underlying25 rfl infAdrs
  refine Reg.pass_val (.bool true) (Reg.met_none rfl) (fun a w hE hS => ?_) ?_
  · have e0 := Reg.see_new 9 2 hS (by kernel_rfl) (by kernel_rfl) rfl rfl
    have e1 := Reg.see_new 10 3 hS (by kernel_rfl) (by kernel_rfl) rfl rfl
    go_simp
  refine Reg.pass_copy 11 4 (Reg.met_none rfl) (.inl rfl) (by kernel_rfl) (by kernel_rfl) rfl rfl (by first | exact Reg.stable_eqs _ | exact Reg.stable_built _ _ _ | exact Reg.stable_bytes _ _) ?_
  refine Reg.pass_val (.agg (bcells n).toArray) (Reg.met_some 5 true 12 rfl rfl (by kernel_rfl) (by kernel_rfl) rfl rfl) (fun a w hE hS => ?_) ?_
  · have e0 := Reg.see_old 3 hS (by kernel_rfl) (by kernel_rfl) rfl
    exact reg_load 28 3 rfl e0 (hb1.ext hE) Try.underlying28 rfl (by rw [List.size_toArray, HL.out]; exact infNode)
  refine Reg.pass_step (Reg.eqs (.agg #[.int .u32 (adOf n).layer, .int .u64 (adOf n).tree, .int .u32 (adOf n).kind, .int .u32 (adOf n).a, .int .u32 (adOf n).b, .int .u32 (adOf n).c, .int .u32 (adOf n).mask])) (Reg.stable_eqs _) (Reg.met_some 5 true 12 rfl rfl (by kernel_rfl) (by kernel_rfl) rfl rfl) (fun a w hE hS => ?_) ?_
  · have e0 := Reg.see_new 13 6 hS (by kernel_rfl) (by kernel_rfl) rfl rfl
    refine Reg.wp_call rfl Try.func35 rfl (by kernel_rfl) (by simp [Act.eval, e0]) (aOf_any n hn.out w) ?_
    rintro e w' ⟨rfl, hB⟩
    exact ⟨_, rfl, _, rfl, hB, rfl⟩
  refine Reg.pass_step (Reg.eqs (.agg (bcells n).toArray)) (Reg.stable_eqs _) (Reg.met_some 5 true 12 rfl rfl (by kernel_rfl) (by kernel_rfl) rfl rfl) (fun a w hE hS => ?_) ?_
  · have e0 := Reg.see_new 14 7 hS (by kernel_rfl) (by kernel_rfl) rfl rfl
    refine Reg.wp_call rfl Try.func15 rfl (by kernel_rfl) (by simp [Act.eval, e0]) (abytes_any (adOf n).layer (adOf n).tree (adOf n).kind (adOf n).a (adOf n).b (adOf n).c (adOf n).mask w) ?_
    rintro e w' ⟨rfl, hB⟩
    rw [HN.out]
    exact ⟨_, rfl, _, rfl, hB, rfl⟩
  refine Reg.pass_val (.agg (bcells n).toArray) (Reg.met_some 5 true 12 rfl rfl (by kernel_rfl) (by kernel_rfl) rfl rfl) (fun a w hE hS => ?_) ?_
  · have e0 := Reg.see_old 3 hS (by kernel_rfl) (by kernel_rfl) rfl
    exact reg_load 28 3 rfl e0 (hb1.ext hE) Try.underlying28 rfl (by rw [List.size_toArray, HL.out]; exact infNode)
  refine Reg.pass_val (.bool true) (Reg.met_some 5 true 12 rfl rfl (by kernel_rfl) (by kernel_rfl) rfl rfl) (fun a w hE hS => ?_) ?_
  · have e0 := Reg.see_new 15 8 hS (by kernel_rfl) (by kernel_rfl) rfl rfl
    have e1 := Reg.see_new 16 9 hS (by kernel_rfl) (by kernel_rfl) rfl rfl
    go_simp
  apply Reg.pass_val (hm := (Reg.met_none rfl))
  · intro a w hE hS
    have e0 := Reg.see_new 12 5 hS (by kernel_rfl) (by kernel_rfl) rfl rfl
    have e1 := Reg.see_new 17 10 hS (by kernel_rfl) (by kernel_rfl) rfl rfl
    go_simp; first | done | rfl
  refine Reg.pass_copy 18 11 (Reg.met_none rfl) (.inr rfl) (by kernel_rfl) (by kernel_rfl) rfl rfl (by first | exact Reg.stable_eqs _ | exact Reg.stable_built _ _ _ | exact Reg.stable_bytes _ _) ?_
  refine Reg.pass_end [none, none, none, none, some 4, none, none, some 7, some 8, some 9, some 10, some 11, some 12, some 13, some 14, some 15, some 16, some 17, some 18] (by kernel_rfl) ?_
  intro f w9 hE hf
  have h4' : f 4 = .bool true := hf 4 12 _ (by kernel_rfl) rfl
  have B9 := B1.drew.trans (hE.below B1.size)
  clear hf hE hb0 hb1 B1 hng hne
  simp only [Reg.sel, h4']
  go_wp2
  go_ret
  exact ⟨rfl, B9⟩
end Go.Proofs.Ytebdehhamjlbpaa
