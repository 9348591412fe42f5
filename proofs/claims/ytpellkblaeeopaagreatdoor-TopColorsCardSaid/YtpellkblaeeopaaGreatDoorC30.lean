/-
  Parts: GcH GcI.
-/
import Derived.Test.YtpellkblaeeopaaGreatDoorC29
import Derived.Test.YtpellkblaeeopaaGreatDoorC15
/-
  Walk: color.Take.
-/
namespace Go.Proofs.YtpellkblaeeopaaGreatDoor
open Go.RowKit Go.Shelf

attribute [local go_sem] Oper.semAt_some

theorem filter_periodic (f : Nat → Bool) (n : Nat) (hn : 0 < n) : ∀ r, ((List.range (r * n)).filter fun k => f (k % n)).length = r * ((List.range n).filter f).length
  | 0 => by simp
  | r + 1 => by
    rw [Nat.add_mul, Nat.one_mul, List.range_add, List.filter_append, List.length_append, filter_periodic f n hn r, Nat.add_mul, Nat.one_mul]
    congr 1
    rw [List.filter_map, List.length_map]
    congr 1
    refine List.filter_congr fun k hk => ?_
    have := List.mem_range.1 hk
    simp only [Function.comp_apply]
    rw [Nat.add_comm, Nat.mul_comm, Nat.add_mul_mod_self_left, Nat.mod_eq_of_lt this]
theorem bits_filter (x : Nat) : ∀ n, ((List.range n).filter fun c => x / 2 ^ c % 2 == 1).length = bitsOf n x
  | 0 => rfl
  | n + 1 => by
    rw [List.range_succ, List.filter_append, List.length_append, bits_filter x n]
    unfold bitsOf
    rw [List.range_succ, List.map_append, List.sum_append]
    congr 1
    have h : x / 2 ^ n % 2 = 0 ∨ x / 2 ^ n % 2 = 1 := by omega
    rcases h with h | h <;> simp [h]
theorem bits_zero (k : Nat) : bitsOf k 0 = 0 := by
  induction k with
  | zero => rfl
  | succ k ih => rw [bits_add k 1, ih]; simp [bitsOf]
theorem hits_lenK (n mask K R : Nat) (h0 : 0 < n) (hK : R * n = K) (hR : 8192 / n = R) (hd : 266240 % n = 0) (hmk : bitsOf 64 mask = bitsOf n mask) : (hits n mask K).length = countV n mask := by
  unfold hits countV
  rw [List.length_map, hmk, ← bits_filter mask n, Int.toNat_natCast, hR]
  have hp := filter_periodic (fun c => mask / 2 ^ c % 2 == 1) n h0 R
  rw [hK] at hp
  refine Eq.trans (congrArg List.length (List.filter_congr fun k _ => ?_)) hp
  unfold hitB
  have e : (266240 + k) % n = k % n := by
    obtain ⟨q, hq⟩ := Nat.dvd_of_mod_eq_zero hd
    rw [hq, Nat.mul_add_mod]
  rw [e]
theorem mask_bits {n mask : Nat} (hok : maskOk n mask = true) (hmk : mask < 18446744073709551616) : bitsOf 64 mask = bitsOf n mask := by
  simp only [maskOk, Bool.and_eq_true, Bool.or_eq_true, decide_eq_true_eq] at hok
  obtain ⟨⟨hcn, _⟩, hb⟩ := hok
  have h7 := colN_cases hcn
  have hn : 1 ≤ n ∧ n ≤ 64 := by omega
  have hm2 : mask < 2 ^ n := by
    rcases hb with h | h
    · obtain rfl : n = 64 := by omega
      exact hmk
    · simpa using h
  have := bits_add n (64 - n) mask
  rw [show n + (64 - n) = 64 by omega, Nat.div_eq_of_lt hm2, bits_zero] at this
  omega
theorem hits_len (n mask : Nat) (hok : maskOk n mask = true) (hmk : mask < 18446744073709551616) : (hits n mask 8192).length = countV n mask := by
  have hb := mask_bits hok hmk
  simp only [maskOk, Bool.and_eq_true] at hok
  have h7 := colN_cases hok.1.1
  have hd : 0 < n ∧ 266240 % n = 0 ∧ 8192 / n * n = 8192 := by
    rcases h7 with h | h | h | h | h | h | h
    · obtain rfl : n = 1 := by omega
      decide
    · obtain rfl : n = 2 := by omega
      decide
    · obtain rfl : n = 4 := by omega
      decide
    · obtain rfl : n = 8 := by omega
      decide
    · obtain rfl : n = 16 := by omega
      decide
    · obtain rfl : n = 32 := by omega
      decide
    · obtain rfl : n = 64 := by omega
      decide
  exact hits_lenK n mask 8192 (8192 / n) hd.1 hd.2.2 rfl hd.2.1 hb
theorem hits_mem {n mask K : Nat} {s : Sp} (h : s ∈ hits n mask K) : ∃ k, k < K ∧ s = hitSp k := by
  obtain ⟨k, hk, rfl⟩ := List.mem_map.1 h
  exact ⟨k, List.mem_range.1 (List.mem_filter.1 hk).1, rfl⟩
theorem hitSp_ok {k : Nat} (hk : k < 8192) : (hitSp k).ok := ⟨by simp only [hitSp]; omega, by simp only [hitSp]; omega⟩
theorem hitSp_en {k : Nat} (hk : k < 8192) : EnOk (endOf (hitSp k)) := by
  have hg : (hitSp k).good = true := Sp.good_iff.2 (by simp only [hitSp]; omega)
  have hl : (hitSp k).last = 1090519040 + 4096 * k + 4096 - 1 := by rw [Sp.last, if_pos hg]; rfl
  unfold EnOk endOf
  rw [hl]
  simp only [hitSp]
  omega
def TakeRet (w : World) (n : Int) (mask many : Nat) (e : Ending) (w' : World) : Prop :=
  Below w.heap.size w w' ∧ ((∃ x : Int, x ≠ 0 ∧ e = .returned (.tuple #[.slice none 0 0, .int .i64 x])) ∨
    (maskOk n mask = true ∧ many ≤ (hits n.toNat mask 8192).length ∧ ∃ srt A c, SortedE (goodE ((hits n.toNat mask 8192).take many)) srt ∧ e = .returned (.tuple #[.slice A (mergeE srt).length c, .int .i64 0]) ∧
      w'.ownsRow w.heap.size 25 2 (.slice A (mergeE srt).length c) (mergeE srt).length (scells ((mergeE srt).map toSp))))
theorem cpages_stops (m mask : Nat) (hm : colN (m : Int) = true) (hmk : mask < 18446744073709551616) (b1 b2 b3 n0 : Nat) (Z : Nat → Prop) (hZ1 : Z b1) (hZ2 : Z b2) (hZ3 : Z b3) (w : World) (hn0 : n0 ≤ w.heap.size) (hZl : ∀ b, Z b → b < w.heap.size)
    (hB1 : Blk w b1 25 roomA.cells) (hB2 : Blk w b2 22 #[.int .u64 (mask : Int)]) (hB3 : Blk w b3 3 #[.int .i64 (m : Int)]) :
    SeqStopsK Fence.wide 5 Tryz.prog 54 #[.pointer (some ⟨b1, 0, none⟩), .pointer (some ⟨b2, 0, none⟩), .pointer (some ⟨b3, 0, none⟩)] spEncs (KBs Z n0) (fun ys => ys = hits m mask 8192) (fun pre => pre <+: hits m mask 8192) 10000 w := fun ly Jv Jx W hW hAb _ hY h0 =>
  cpages1_in 5 ly b1 b2 b3 n0 (by omega) m mask hm hmk Z hZ1 hZ2 hZ3 Jv Jx W hAb hY (Nat.le_trans hn0 hW.size) (fun b hb => Nat.lt_of_lt_of_le (hZl b hb) hW.size) (hB1.below hW hB1.lt) (hB2.below hW hB2.lt) (hB3.below hW hB3.lt) h0

/-- the caller's own cells between two rounds: the row of the pages, the iterator's boxes, the number that is wanted -/
structure TkS (w : World) (bL many m mask : Nat) (pre : List Sp) (W : World) : Prop where
  S : ∃ A c, Blk W bL 34 #[.slice A pre.length c] ∧ W.ownsRow (bL + 4) 25 2 (.slice A pre.length c) pre.length (scells pre)
  b1 : Blk W (bL + 1) 25 roomA.cells
  b2 : Blk W (bL + 3) 22 #[.int .u64 (mask : Int)]
  b3 : Blk W (bL + 2) 3 #[.int .i64 (m : Int)]
  b7 : Blk W (w.heap.size + 1) 3 #[.int .i64 (many : Int)]
  B : Below w.heap.size w W
theorem TkS.kept {w : World} {bL many m mask : Nat} {pre : List Sp} {W W' : World} {row : Option Nat} (hs : TkS w bL many m mask pre W) (hg : W.grownBy W' row) (hr : ∀ r, row = some r → w.heap.size ≤ r ∧ ∃ o : Obj, W.heap[r]? = some o ∧ o.isCells = false) : TkS w bL many m mask pre W' := by
  obtain ⟨⟨A1, c1, h1, h2⟩, h3, h4, h5, h6, h7⟩ := hs
  have hr2 : ∀ r, row = some r → ∃ o : Obj, W.heap[r]? = some o ∧ o.isCells = false := fun r e => (hr r e).2
  exact ⟨⟨A1, c1, blk_keptS h1 hg hr2, own_keptS h2 hg hr2⟩, blk_keptS h3 hg hr2, blk_keptS h4 hg hr2, blk_keptS h5 hg hr2, blk_keptS h6 hg hr2, h7.grown hg h7.size (fun r e => (hr r e).1)⟩
/-- the frame of a round -/
def tkAx (w : World) (bL gp many nn mask : Nat) (f : Tmp → Value) (x : Sp) (a' : Act) (W : World) : Prop :=
  ∃ g11, Blk W g11 25 x.cells ∧ a' = { tmps := #[.agg roomA.cells, .int .i64 (nn : Int), .int .u64 (mask : Int), .int .i64 (many : Int), .pointer (some ⟨w.heap.size, 0, none⟩), undef, undef, .pointer (some ⟨w.heap.size + 1, 0, none⟩), .slice none 0 0, .int .i64 0, .pointer (some ⟨bL, 0, none⟩), .pointer (some ⟨g11, 0, none⟩), .bool false, .int .i64 (nn : Int), .int .u64 (mask : Int), .bool true, .bool false, .bool false, .agg #[.int .u64 1090519040, .int .u64 33554432], .slice (some ⟨gp, 0, none⟩) 1 1, .bool true, .bool false, .bool false, .int .i64 (many : Int), .bool false, .bool false, .bool false, .int .i64 (many : Int), .bool false, .bool false, .bool false, f 31, f 32, f 33, f 34, f 35, f 36, f 37, .agg #[.int .u64 1090519040, .int .u64 33554432], .int .i64 (nn : Int), .int .u64 (mask : Int), .func (.func 54) #[] #[.pointer (some ⟨bL + 1, 0, none⟩), .pointer (some ⟨bL + 1 + 1 + 1, 0, none⟩), .pointer (some ⟨bL + 1 + 1, 0, none⟩)], .agg x.cells, undef, undef, undef, undef, undef, undef, undef, undef, undef, undef], defers := [] }
def tkZ (bL : Nat) (b : Nat) : Prop := b = bL + 1 ∨ b = bL + 2 ∨ b = bL + 3

set_option maxRecDepth 100000 in
set_option maxHeartbeats 4000000 in
theorem take_any (n : Int) (mask many : Nat) (hmk : mask < 18446744073709551616) (h1 : 1 ≤ many) (h40 : many ≤ 40) (w : World) :
    Calls Tryz.prog 7 #[.agg roomA.cells, .int .i64 n, .int .u64 (mask : Int), .int .i64 (many : Int)] w (TakeRet w n mask many) := by
  have hmsk := fun W => masked_any n mask hmk W
  have hpg : ∀ W b, Rd W W.heap.size 2 (some ⟨b, 0, none⟩) 1 (scells [roomA]) → Calls Tryz.prog 16 #[.slice (some ⟨b, 0, none⟩) 1 1] W (BoolRet W true) := fun W b h => by
    have := mpages_any b 0 1 1 [roomA] (by intro s hs; rw [List.mem_singleton.1 hs]; exact roomA_ok) W h (by omega)
    rwa [show [roomA].all Sp.pages = true by decide] at this
  have g4 := (Blk.new w 25 roomA.cells).alloc (.cells #[.int .i64 (many : Int)] 3)
  have g7 := Blk.new (w.alloc (.cells roomA.cells 25)) 3 #[.int .i64 (many : Int)]
  rw [World.size_alloc] at g7
  have B0 : Below w.heap.size w ((w.alloc (.cells roomA.cells 25)).alloc (.cells #[.int .i64 (many : Int)] 3)) := ((Below.refl _ w).alloc (Nat.le_refl _) _).alloc (by simp) _
  refine (callsIn_wide (n := 6)).1 ?_
  refine callsIn_of_wp_marks Tryz.func7 rfl trivial ?_ rfl
  simp only [Tryz.ntmps7, List.size_toArray, List.length_cons, List.length_nil, Nat.reduceAdd, Nat.reduceSub, Array.replicate_succ, Array.replicate_zero, List.push_toArray, List.append_toArray, List.nil_append, List.cons_append]
  gi_wp2_with fail
  generalize (w.alloc (.cells roomA.cells 25)).alloc (.cells #[.int .i64 (many : Int)] 3) = W1 at *
  refine ⟨trivial, ((callsIn_wide (n := 5)).2 (hmsk _)).mono ?_⟩
  rintro e w' ⟨rfl, hw'⟩
  subst hw'
  clear hmsk
  cases hok : maskOk n mask with
  | false =>
    clear hok
    gi_wp2
    refine ⟨_, results_tmp2 rfl _ _ _, B0, .inl ⟨340, by decide, rfl⟩⟩
  | true =>
    have hcn : colN n = true := by simp only [maskOk, Bool.and_eq_true] at hok; exact hok.1.1
    have h7 := colN_cases hcn
    obtain ⟨nn, hnn⟩ : ∃ nn : Nat, n = (nn : Int) := ⟨n.toNat, by omega⟩
    subst hnn
    have HOK := Lib.hid hok
    have HCN := Lib.hid hcn
    have k0 : w'.cell? ⟨w.heap.size, 0, none⟩ = some (.int .u64 1090519040) := (g4.cell 0).trans rfl
    have k1 : w'.cell? ⟨w.heap.size, 1, none⟩ = some (.int .u64 33554432) := (g4.cell 1).trans rfl
    have gp := Blk.new w' 25 #[.int .u64 1090519040, .int .u64 33554432]
    have Bp := B0.alloc B0.size (.cells #[.int .u64 1090519040, .int .u64 33554432] 25)
    have g42 := g4.alloc (.cells #[.int .u64 1090519040, .int .u64 33554432] 25)
    have g72 := g7.alloc (.cells #[.int .u64 1090519040, .int .u64 33554432] 25)
    have hp := hpg (w'.alloc (.cells #[.int .u64 1090519040, .int .u64 33554432] 25)) w'.heap.size (gp.rd (size := 2) (n := 1) rfl)
    clear hok h7 hpg g4 g7 B0 gp
    gi_wp2_with fail
    generalize w'.alloc (.cells #[.int .u64 1090519040, .int .u64 33554432] 25) = W2 at *
    refine ⟨trivial, ((callsIn_wide (n := 5)).2 hp).mono ?_⟩
    rintro e W3 ⟨rfl, hB3⟩
    have g43 := g42.below hB3 g42.lt
    have g73 := g72.below hB3 g72.lt
    have B3 := Bp.trans (hB3.mono Bp.size)
    clear hp g42 g72 hB3 Bp k0 k1
    have km : W3.cell? ⟨w.heap.size + 1, 0, none⟩ = some (.int .i64 (many : Int)) := (g73.cell 0).trans rfl
    have hmw : IntKind.u64.wrap (many : Int) = (many : Int) := IntWalk.u64_in _ (by omega)
    have hm1 : decide ((many : Int) < 1) = false := by simp; omega
    have hm2 : decide ((4096 : Int) < (many : Int)) = false := by simp; omega
    obtain ⟨bl, hbl0⟩ : ∃ b, b = decide (countV nn mask < many) := ⟨_, rfl⟩
    have hbl : decide (((countV nn mask : Nat) : Int) < (many : Int)) = bl := by rw [hbl0]; exact decide_eq_decide.2 (by omega)
    have HBL := Lib.hid hbl0
    have hok := HOK.out
    obtain ⟨CV, hCV⟩ : ∃ CV, CV = countV nn mask := ⟨_, rfl⟩
    have hcnt := fun W => count_any (nn : Int) mask hmk hok W
    rw [← hCV] at hbl HBL
    simp only [← hCV] at hcnt
    have HCV := Lib.hid hCV
    clear hbl0 hok hCV
    gi_wp2_with fail
    refine Flow.wpIn_region_flow Plain.wide (by kernel_rfl) (W3.heap.size) [] [] (by kernel_rfl) (by kernel_rfl) (Nat.le_refl _) (fun _ h => by cases h) Flow.facts_nil ?_
    refine Flow.pass_val (.agg roomA.cells) (Flow.met_none rfl) (fun a W hH => ?_) ?_
    · have e0 := Flow.see_old 4 hH.sees (by kernel_rfl) (by kernel_rfl) rfl
      exact reg_loadPG 25 _ rfl e0 (g43.drew.below hH.below g43.lt) Tryz.underlying25 rfl infSpan
    refine Flow.pass_old (X := .int .i64 (nn : Int)) 1 (Flow.met_none rfl) (.inl rfl) (by kernel_rfl) (by kernel_rfl) rfl ?_
    refine Flow.pass_old (X := .int .u64 (mask : Int)) 2 (Flow.met_none rfl) (.inl rfl) (by kernel_rfl) (by kernel_rfl) rfl ?_
    refine Flow.pass_step (Reg.eqs (.int .u64 (CV : Int))) (fun _ _ => Flow.kept_eqs _ _) (Flow.met_none rfl) (fun a W hH => ?_) ?_
    · have e0 := Flow.see_new 31 0 hH.sees (by kernel_rfl) (by kernel_rfl) rfl rfl
      have e1 := Flow.see_new 32 1 hH.sees (by kernel_rfl) (by kernel_rfl) rfl rfl
      have e2 := Flow.see_new 33 2 hH.sees (by kernel_rfl) (by kernel_rfl) rfl rfl
      refine Reg.wp_call rfl Tryz.func22 rfl (by kernel_rfl) (by simp [Act.eval, e0, e1, e2]) (hcnt W) ?_
      rintro e w' ⟨rfl, hB⟩
      exact ⟨_, rfl, _, rfl, hB, rfl⟩
    refine Flow.pass_val (.int .i64 (many : Int)) (Flow.met_none rfl) (fun a W hH => ?_) ?_
    · have e0 := Flow.see_old 7 hH.sees (by kernel_rfl) (by kernel_rfl) rfl
      have cc : World.cell? W ⟨w.heap.size + 1, 0, none⟩ = some (.int .i64 (many : Int)) := ((g73.drew.below hH.below g73.lt).cell 0).trans rfl; go_simp; first | done | rfl
    refine Flow.pass_val (.int .u64 (many : Int)) (Flow.met_none rfl) (fun a W hH => ?_) ?_
    · have e0 := Flow.see_new 35 4 hH.sees (by kernel_rfl) (by kernel_rfl) rfl rfl
      go_simp; first | done | rfl | (rw [hmw]; done)
    refine Flow.pass_val (.bool bl) (Flow.met_none rfl) (fun a W hH => ?_) ?_
    · have e0 := Flow.see_new 34 3 hH.sees (by kernel_rfl) (by kernel_rfl) rfl rfl
      have e1 := Flow.see_new 36 5 hH.sees (by kernel_rfl) (by kernel_rfl) rfl rfl
      go_simp; first | done | rfl | exact hbl | exact HBL.out.symm
    refine Flow.pass_copy 37 6 (Flow.met_none rfl) (.inr rfl) (by kernel_rfl) (by kernel_rfl) rfl rfl (fun _ _ => Flow.kept_eqs _ _) ?_
    refine Flow.pass_end [none, none, none, none, none, none, none, none, none, none, none, none, none, none, none, none, none, none, none, none, none, none, none, none, none, none, none, none, none, none, some 30, some 31, some 32, some 33, some 34, some 35, some 36, some 37, none, none, none, none, none, none, none, none, none, none, none, none, none, none, none] (by kernel_rfl) ?_
    intro f gg w9 hB hfa hT hfg
    have h30 : f 30 = _ := (hfg 30 7 (by kernel_rfl)).trans (hT 7 _ (by kernel_rfl) rfl)
    refine ⟨rfl, ?_⟩
    have B9 := B3.drew.trans (hB.mono B3.size)
    have g49 := g43.drew.below hB g43.lt
    have g79 := g73.drew.below hB g73.lt
    simp only [Reg.sel, h30]
    clear hT hfg hfa hB B3 g43 g73 km hcnt hbl
    cases bl with
    | true =>
      gi_wp2
      refine ⟨_, results_tmp2 rfl _ _ _, B9, .inl ⟨110, by decide, rfl⟩⟩
    | false =>
      have hle : Hid (many ≤ (hits nn mask 8192).length) := Lib.hid (by
        have h3 := of_decide_eq_false HBL.out.symm
        have h4 := hits_len nn mask HOK.out hmk
        rw [h4, ← HCV.out]; omega)
      have gL := Blk.new w9 34 #[.slice none 0 0]
      have g4L := g49.alloc (.cells #[.slice none 0 0] 34)
      have g7L := g79.alloc (.cells #[.slice none 0 0] 34)
      have BL := B9.alloc B9.size (.cells #[.slice none 0 0] 34)
      have hsL : (w9.alloc (.cells #[.slice none 0 0] 34)).heap.size = w9.heap.size + 1 := by simp
      have kr0 : (w9.alloc (.cells #[.slice none 0 0] 34)).cell? ⟨w.heap.size, 0, none⟩ = some (.int .u64 1090519040) := (g4L.cell 0).trans rfl
      have kr1 : (w9.alloc (.cells #[.slice none 0 0] 34)).cell? ⟨w.heap.size, 1, none⟩ = some (.int .u64 33554432) := (g4L.cell 1).trans rfl
      have hwb0 : w.heap.size + 1 < w9.heap.size := g79.lt
      clear g49 g79 B9
      gi_wp2_with fail
      generalize w9.alloc (.cells #[.slice none 0 0] 34) = w10 at *
      refine ⟨trivial, (cpages_in Fence.wide 5 trivial rfl (nn : Int) mask w10).mono ?_⟩
      rintro e w' ⟨rfl, rfl⟩
      gi_wp2_with fail
      generalize w'.heap.size = gp at *
      have hLs := BL.size
      generalize w9.heap.size = bL at *
      have hs10 := hsL
      obtain ⟨W2, hW2⟩ : ∃ W2, W2 = ((w10.alloc (.cells roomA.cells 25)).alloc (.cells #[.int .i64 (nn : Int)] 3)).alloc (.cells #[.int .u64 (mask : Int)] 22) := ⟨_, rfl⟩
      have hs2 : W2.heap.size = bL + 4 := by rw [hW2]; simp [hs10]
      have hB2 : Below w.heap.size w W2 := by rw [hW2]; exact ((BL.alloc BL.size _).alloc (by simp; omega) _).alloc (by simp; omega) _
      have hI0 : TkS w bL many nn mask [] W2 := by
        rw [hW2]
        refine ⟨⟨none, 0, ((gL.alloc _).alloc _).alloc _, World.ownsRow_nil _ _ _ _⟩, ?_, ?_, ?_, ((g7L.alloc _).alloc _).alloc _, by rw [← hW2]; exact hB2⟩
        · have := ((Blk.new w10 25 roomA.cells).alloc (.cells #[.int .i64 (nn : Int)] 3)).alloc (.cells #[.int .u64 (mask : Int)] 22)
          rwa [hs10] at this
        · have := Blk.new ((w10.alloc (.cells roomA.cells 25)).alloc (.cells #[.int .i64 (nn : Int)] 3)) 22 #[.int .u64 (mask : Int)]
          rwa [World.size_alloc, World.size_alloc, hs10] at this
        · have := (Blk.new (w10.alloc (.cells roomA.cells 25)) 3 #[.int .i64 (nn : Int)]).alloc (.cells #[.int .u64 (mask : Int)] 22)
          rwa [World.size_alloc, hs10] at this
      rw [← hW2]
      have hwb : w.heap.size + 1 < bL + 1 := by have := g7L.lt; omega
      clear hW2 gL g4L g7L BL kr0 kr1 hLs
      have hp2 : w.heap.size ≤ W2.heap.size := by omega
      refine wpIn_rangeFunc_ownH rfl (by omega) (gf := 54) (lb := #[.pointer (some ⟨bL + 1, 0, none⟩), .pointer (some ⟨bL + 1 + 1 + 1, 0, none⟩), .pointer (some ⟨bL + 1 + 1, 0, none⟩)]) rfl trivial (enters_of Tryz.func54 (by kernel_rfl) rfl)
        (cpages_stops nn mask HCN.out hmk (bL + 1) (bL + 3) (bL + 2) w.heap.size (tkZ bL) (.inl rfl) (.inr (.inr rfl)) (.inr (.inl rfl)) W2 hp2 (fun b hb => by rcases hb with h | h | h <;> omega) hI0.b1 hI0.b2 hI0.b3) (fun h k => h.trans k)
        (fun W l o o' hl h h1 h2 => ⟨fun b hb => World.putObj_heap_other (by rcases hb with h | h | h <;> omega), belowK_b (w := W2) hp2 W l o o' hl h h1 h2⟩) (Below.refl _ _) (fun _ => rfl)
        (fun pre W => pre.length < many ∧ TkS w bL many nn mask pre W) (fun c pre W => c = .exit 1 ∧ pre.length = many ∧ TkS w bL many nn mask pre W)
        (fun s W W' row hs hg hr => ⟨hs.1, hs.2.kept hg (fun r e => ⟨by have := (hr r e).1; omega, (hr r e).2⟩)⟩)
        (fun c s W W' row hs hg hr => ⟨hs.1, hs.2.1, hs.2.2.kept hg (fun r e => ⟨by have := (hr r e).1; omega, (hr r e).2⟩)⟩) ⟨by simpa using (show 0 < many by omega), hI0⟩
        (tkAx w bL gp many nn mask f) (fun x a' _ W W' row hs hg hr => by obtain ⟨g5, h1, h2⟩ := hs; exact ⟨g5, blk_keptS h1 hg (fun r e => (hr r e).2), h2⟩) ?assign ?body ?done ?stop
      case assign =>
        rintro ly pre x W K' ⟨hlt, hI⟩ hK
        simp only [spEncs, Sp.cells]
        gi_wp2
        have l1 := hI.b1.lt
        have l2 := hI.b2.lt
        have l3 := hI.b3.lt
        have hC3 : Chg (fun b => b = W.heap.size) W (W.alloc (.cells #[.int .u64 (x.base : Int), .int .u64 (x.size : Int)] 25)) := (Chg.refl _ W).alloc _
        have hI2 : TkS w bL many nn mask pre (W.alloc (.cells #[.int .u64 (x.base : Int), .int .u64 (x.size : Int)] 25)) := by
          obtain ⟨⟨A1, c1, h1, h2⟩, h3, h4, h5, h6, h7⟩ := hI
          exact ⟨⟨A1, c1, h1.alloc _, own_chg h2 (Chg.of_ext ((Ext.refl W).alloc _)) (fun _ _ => id)⟩, h3.alloc _, h4.alloc _, h5.alloc _, h6.alloc _, h7.alloc h7.size _⟩
        refine hK _ _ (KeepsOthers.from (KeepsOthers.alloc _ _) _) ⟨fun b hb => hC3.block b (by rcases hb with h | h | h <;> omega) (by rcases hb with h | h | h <;> omega), (Below.refl _ W).alloc hI.B.size _⟩ ⟨hlt, hI2⟩ ⟨W.heap.size, Blk.new W _ _, rfl⟩
      case body =>
        rintro ly pre x a' wr hl ⟨r, hr⟩ ⟨hlt, ⟨A1, c1, hS, hO⟩, hb1, hb2, hb3, hb7, hB⟩ ⟨g5, hX5, rfl⟩ hlen
        have hcell : wr.cell? ⟨bL, 0, none⟩ = some (.slice A1 pre.length c1) := (hS.cell 0).trans rfl
        have x0 : wr.cell? ⟨g5, 0, none⟩ = some (.int .u64 (x.base : Int)) := (hX5.cell 0).trans rfl
        have x1 : wr.cell? ⟨g5, 1, none⟩ = some (.int .u64 (x.size : Int)) := (hX5.cell 1).trans rfl
        obtain ⟨i, hi2, hi3, hi4, hi5⟩ := elSpan.info
        have hszW := hS.lt
        have hO1 := own_chg hO (Chg.of_ext ((Ext.refl wr).alloc (.cells #[.int .u64 (x.base : Int), .int .u64 (x.size : Int)] 25))) (fun _ _ => id)
        have hS1 := hS.alloc (.cells #[.int .u64 (x.base : Int), .int .u64 (x.size : Int)] 25)
        have h71 := hb7.alloc (.cells #[.int .u64 (x.base : Int), .int .u64 (x.size : Int)] 25)
        have hN1 := Blk.new wr 25 #[.int .u64 (x.base : Int), .int .u64 (x.size : Int)]
        have hob : ∀ r, (Value.slice A1 pre.length c1).ownBlock = some r → bL + 4 ≤ r ∧ r < wr.heap.size := fun r hr => hO.lt r hr
        have hB1' : Below w.heap.size w (wr.alloc (.cells #[.int .u64 (x.base : Int), .int .u64 (x.size : Int)] 25)) := hB.alloc hB.size _
        have l1 := hb1.lt
        have l2 := hb2.lt
        have l3 := hb3.lt
        have hmy := hlt
        obtain ⟨bq, hbq0⟩ : ∃ b, b = decide (pre.length + 1 = many) := ⟨_, rfl⟩
        have HBQ := Lib.hid hbq0
        have hbq : (((pre.length : Nat) : Int) + 1 == (many : Int)) = bq := by rw [hbq0, Bool.eq_iff_iff]; simp; omega
        clear hbq0
        cases bq with
        | true =>
          gi_wp2_with ((with_reducible refine sIn_append 34 ?_); refine wpListIn_append_own _ rfl _ _ _ rfl (bL + 4) 25 i (.agg #[.int .u64 0, .int .u64 0]) 2 16 elSpan.under hi2 hi3 hi4 hi5 rfl (by omega) (.slice A1 pre.length c1) pre.length (scells pre) rfl hO1 ⟨wr.heap.size, 0, none⟩ 1 1 [.int .u64 (x.base : Int), .int .u64 (x.size : Int)] rfl rfl (fun j u hj => by match j, hj with | 0, hj => exact (hN1.cell 0).trans hj | 1, hj => exact (hN1.cell 1).trans hj | _ + 2, hj => cases hj) (fun u hu => by simp only [List.mem_cons, List.not_mem_nil, or_false] at hu; rcases hu with rfl | rfl <;> rfl) (by simp only [maxLen]; omega) (by omega) (by simp; omega) ?_; intro v' w3 hO3 hg3 hnil; obtain ⟨A', c', rfl⟩ := own_isSliceG hO3; have hS3 := hS1.grown hg3 (fun e => by have := (hob _ e.symm).1; omega); have h73 := h71.grown hg3 (fun e => by have := (hob _ e.symm).1; omega); have hcell3 : w3.cell? ⟨bL, 0, none⟩ = some (.slice A1 pre.length c1) := (hS3.cell 0).trans rfl; have hfr3 := hS3.frozen 0; have hc7 : (w3.setCell ⟨bL, 0, none⟩ (.slice A' (pre.length + 1) c')).cell? ⟨w.heap.size + 1, 0, none⟩ = some (.int .i64 (many : Int)) := ((h73.far (p := ⟨bL, 0, none⟩) (show w.heap.size + 1 ≠ bL by omega) _).cell 0).trans rfl)
          have hob3 : ∀ r, (Value.slice A' (pre.length + 1) c').ownBlock = some r → bL + 4 ≤ r := fun r hr => (hO3.lt r hr).1
          obtain ⟨w4, hw4⟩ : ∃ w4, w4 = w3.setCell ⟨bL, 0, none⟩ (.slice A' (pre.length + 1) c') := ⟨_, rfl⟩
          have hC4 : Chg (fun b => b = bL ∨ (Value.slice A1 pre.length c1).ownBlock = some b) wr w4 := by
            rw [hw4]
            exact (((Chg.refl _ wr).alloc _).trans (Chg.grown hg3 (fun b hb => .inr hb))).trans (Chg.grown (s_grown _ _ _ _) (by rintro j h; cases h; exact .inl rfl))
          have hK : KeepsOthers wr w4 := by
            rw [hw4]
            exact ((KeepsOthers.alloc wr _).trans (KeepsOthers.of_grownBy hg3 (fun j o hj ho => own_cellsS hO1 hj ho))).trans (KeepsOthers.setCell _ _ _)
          have hlen1 : (pre ++ [x]).length = pre.length + 1 := by simp
          have hfar : ∀ b, b ≠ bL → b < bL + 4 → ¬ (b = bL ∨ (Value.slice A1 pre.length c1).ownBlock = some b) := fun b h1 h2 h => by
            rcases h with h | h
            · exact h1 h
            · have := (hob _ h).1; omega
          have hBB : Below w.heap.size wr w4 := hC4.below (fun b hb => by
            rcases hb with hb | hb
            · omega
            · have := (hob b hb).1; omega) hB.size
          have hT4 : TkS w bL many nn mask (pre ++ [x]) w4 := by
            refine ⟨⟨A', c', ?_, ?_⟩, hb1.chg hC4 (hfar _ (by omega) (by omega)), hb2.chg hC4 (hfar _ (by omega) (by omega)), hb3.chg hC4 (hfar _ (by omega) (by omega)), hb7.chg hC4 (hfar _ (by omega) (by omega)), hB.trans hBB⟩
            · rw [hlen1, hw4]; exact hS3.set_ 0 _
            · rw [hlen1, scells_append, hw4]
              exact own_chg hO3 (Chg.grown (Z := fun b => b = bL) (s_grown _ _ _ _) (by rintro j h; cases h; rfl)) (fun r hr e => by have := hob3 r hr; omega)
          rw [← hw4]
          exact ⟨hK.from _, rfl, by rw [hlen1]; exact of_decide_eq_true HBQ.out.symm, hT4⟩
        | false =>
          gi_wp2_with ((with_reducible refine sIn_append 34 ?_); refine wpListIn_append_own _ rfl _ _ _ rfl (bL + 4) 25 i (.agg #[.int .u64 0, .int .u64 0]) 2 16 elSpan.under hi2 hi3 hi4 hi5 rfl (by omega) (.slice A1 pre.length c1) pre.length (scells pre) rfl hO1 ⟨wr.heap.size, 0, none⟩ 1 1 [.int .u64 (x.base : Int), .int .u64 (x.size : Int)] rfl rfl (fun j u hj => by match j, hj with | 0, hj => exact (hN1.cell 0).trans hj | 1, hj => exact (hN1.cell 1).trans hj | _ + 2, hj => cases hj) (fun u hu => by simp only [List.mem_cons, List.not_mem_nil, or_false] at hu; rcases hu with rfl | rfl <;> rfl) (by simp only [maxLen]; omega) (by omega) (by simp; omega) ?_; intro v' w3 hO3 hg3 hnil; obtain ⟨A', c', rfl⟩ := own_isSliceG hO3; have hS3 := hS1.grown hg3 (fun e => by have := (hob _ e.symm).1; omega); have h73 := h71.grown hg3 (fun e => by have := (hob _ e.symm).1; omega); have hcell3 : w3.cell? ⟨bL, 0, none⟩ = some (.slice A1 pre.length c1) := (hS3.cell 0).trans rfl; have hfr3 := hS3.frozen 0; have hc7 : (w3.setCell ⟨bL, 0, none⟩ (.slice A' (pre.length + 1) c')).cell? ⟨w.heap.size + 1, 0, none⟩ = some (.int .i64 (many : Int)) := ((h73.far (p := ⟨bL, 0, none⟩) (show w.heap.size + 1 ≠ bL by omega) _).cell 0).trans rfl)
          have hob3 : ∀ r, (Value.slice A' (pre.length + 1) c').ownBlock = some r → bL + 4 ≤ r := fun r hr => (hO3.lt r hr).1
          obtain ⟨w4, hw4⟩ : ∃ w4, w4 = w3.setCell ⟨bL, 0, none⟩ (.slice A' (pre.length + 1) c') := ⟨_, rfl⟩
          have hC4 : Chg (fun b => b = bL ∨ (Value.slice A1 pre.length c1).ownBlock = some b) wr w4 := by
            rw [hw4]
            exact (((Chg.refl _ wr).alloc _).trans (Chg.grown hg3 (fun b hb => .inr hb))).trans (Chg.grown (s_grown _ _ _ _) (by rintro j h; cases h; exact .inl rfl))
          have hK : KeepsOthers wr w4 := by
            rw [hw4]
            exact ((KeepsOthers.alloc wr _).trans (KeepsOthers.of_grownBy hg3 (fun j o hj ho => own_cellsS hO1 hj ho))).trans (KeepsOthers.setCell _ _ _)
          have hlen1 : (pre ++ [x]).length = pre.length + 1 := by simp
          have hfar : ∀ b, b ≠ bL → b < bL + 4 → ¬ (b = bL ∨ (Value.slice A1 pre.length c1).ownBlock = some b) := fun b h1 h2 h => by
            rcases h with h | h
            · exact h1 h
            · have := (hob _ h).1; omega
          have hBB : Below w.heap.size wr w4 := hC4.below (fun b hb => by
            rcases hb with hb | hb
            · omega
            · have := (hob b hb).1; omega) hB.size
          have hT4 : TkS w bL many nn mask (pre ++ [x]) w4 := by
            refine ⟨⟨A', c', ?_, ?_⟩, hb1.chg hC4 (hfar _ (by omega) (by omega)), hb2.chg hC4 (hfar _ (by omega) (by omega)), hb3.chg hC4 (hfar _ (by omega) (by omega)), hb7.chg hC4 (hfar _ (by omega) (by omega)), hB.trans hBB⟩
            · rw [hlen1, hw4]; exact hS3.set_ 0 _
            · rw [hlen1, scells_append, hw4]
              exact own_chg hO3 (Chg.grown (Z := fun b => b = bL) (s_grown _ _ _ _) (by rintro j h; cases h; rfl)) (fun r hr e => by have := hob3 r hr; omega)
          rw [← hw4]
          refine ⟨hK.from _, ⟨fun b hb => hC4.block b (by rcases hb with h | h | h <;> omega) (hfar _ (by rcases hb with h | h | h <;> omega) (by rcases hb with h | h | h <;> omega)), hBB⟩, ?_, hT4⟩
          rw [hlen1]; have := of_decide_eq_false HBQ.out.symm; omega
      case done =>
        rintro D ys W hD rfl ⟨hlt, _⟩ _
        have := hle.out
        omega
      case stop =>
        rintro D c pre W hD hpre ⟨rfl, hlen, ⟨A1, c1, hS, hO⟩, _, _, _, _, hB⟩ hK
        have hcell : W.cell? ⟨bL, 0, none⟩ = some (.slice A1 pre.length c1) := (hS.cell 0).trans rfl
        have hpe : pre = (hits nn mask 8192).take many := by rw [← hlen]; exact List.prefix_iff_eq_take.1 hpre
        have hmem : ∀ s ∈ pre, ∃ k, k < 8192 ∧ s = hitSp k := fun s hs => hits_mem (by rw [hpe] at hs; exact List.mem_of_mem_take hs)
        have hMg := merge_any A1 many c1 pre (fun s hs => by obtain ⟨k, hk, rfl⟩ := hmem s hs; exact hitSp_ok hk) (fun e he => by
          obtain ⟨s, hs, rfl⟩ := List.mem_map.1 he
          obtain ⟨k, hk, rfl⟩ := hmem s (List.mem_filter.1 hs).1
          exact hitSp_en hk) (by omega) W (by rw [← hlen]; exact Rd.of_own hO)
        have HPE := Lib.hid hpe
        have hDl : D < W.heap.size := (Array.getElem?_eq_some_iff.1 hK).1
        clear hpe hmem hpre hI0 hB2
        gi_wp2_with fail
        refine ⟨trivial, ((callsIn_wide (n := 5)).2 hMg).mono ?_⟩
        rintro e W3 ⟨srt, hSrt, A2, c2, rfl, hO2, B2⟩
        have hK3 : W3.heap[D]? = some (.deferred (some [])) := (B2.block D hDl).trans hK
        have hB3 := hB.trans (B2.mono hB.size)
        have hml : Hid (((mergeE srt).map toSp).length = (mergeE srt).length) := Lib.hid (by rw [List.length_map])
        rw [hml.out] at hO2
        have HS := Lib.hid hSrt
        clear hS hO hcell hK hMg hSrt hlen
        gi_wp2
        refine ⟨by simp, .inl ⟨_, _, rfl, run_takeDeferred hK3, ?_⟩⟩
        have hg4 := grownBy_putObj' W3 D (.deferred none)
        have hO4 := own_keptS hO2 hg4 (fun r e => by cases e; exact ⟨_, hK3, rfl⟩)
        have B4 : Below w.heap.size w (W3.putObj D (.deferred none)) := grown_below hB3 hg4 hB3.size (by omega)
        refine ⟨_, results_tmp2 rfl _ _ _, B4, .inr ⟨HOK.out, by rw [Int.toNat_natCast]; exact hle.out, srt, A2, c2, ?_, by first | rfl | (rw [hml.out]; rfl), own_baseG hO4 hB.size⟩⟩
        rw [Int.toNat_natCast, ← HPE.out]; exact HS.out
end Go.Proofs.YtpellkblaeeopaaGreatDoor
/-
  Walk: color.Maps (from address 0, with the right to read and write).
-/
namespace Go.Proofs.YtpellkblaeeopaaGreatDoor
open Go.RowKit

def MapsRet (w : World) (l : List Sp) (e : Ending) (w' : World) : Prop :=
  ∃ A c, e = .returned (.tuple #[.slice A l.length c, .int .i64 0]) ∧ w'.ownsRow w.heap.size 91 5 (.slice A l.length c) l.length (pcells (mapsFrom 0 l)) ∧ Below w.heap.size w w'

set_option maxRecDepth 100000 in
set_option maxHeartbeats 4000000 in
theorem maps_any (b off n c : Nat) (l : List Sp) (hl : ∀ s ∈ l, s.pages = true ∧ s.base + s.size ≤ 1099511627776) (hs : sumS l ≤ 1099511627776) (hn1 : n ≤ 1000000) (w : World) (hR : Rd w w.heap.size 2 (some ⟨b, off, none⟩) n (scells l)) :
    Calls Tryz.prog 8 #[.int .u64 0, .slice (some ⟨b, off, none⟩) n c, .int .i64 3] w (MapsRet w l) := by
  have hln : l.length = n := by have := hR.len; rw [scells_length] at this; omega
  have hok : ∀ s ∈ l, s.ok := fun s hs => by have := hl s hs; exact ⟨by omega, by omega⟩
  have hpg : Calls Tryz.prog 16 #[.slice (some ⟨b, off, none⟩) n c] w (BoolRet w true) := by
    have := mpages_any b off n c l hok w hR hn1
    rwa [show l.all Sp.pages = true from List.all_eq_true.2 fun s hs => (hl s hs).1] at this
  have HLN := Lib.hid hln
  have HL := Lib.hid hl
  have HS := Lib.hid hs
  have HOK := Lib.hid hok
  clear hln hl hs hok
  go_enter Tryz.func8, Tryz.ntmps8
  go_wp2_with fail
  refine hpg.mono ?_
  rintro e w0 ⟨rfl, hB0⟩
  clear hpg
  go_wp2
  go_loopw [0, 8, 33] (fun z o i wr => ∃ k : Nat, k ≤ n ∧ i = .int .i64 (k : Int) ∧ z = .int .u64 ((sumS (l.take k) : Nat) : Int) ∧ ∃ A2 c2, o = .slice A2 k c2 ∧ wr.ownsRow w.heap.size 91 5 (.slice A2 k c2) k (pcells (mapsFrom 0 (l.take k))) ∧ Below w.heap.size w wr) (fun _ _ i _ => n - (intOf i).toNat)
  case atStart => exact ⟨0, Nat.zero_le _, rfl, rfl, none, 0, rfl, World.ownsRow_nil _ _ _ _, hB0⟩
  case round =>
    obtain ⟨k, hk, rfl, rfl, A2, c2, rfl, hO, hB⟩ := hrel
    by_cases hlt : k < n
    · obtain ⟨x, hx⟩ : ∃ x, l[k]? = some x := ⟨_, List.getElem?_eq_getElem (by rw [HLN.out]; exact hlt)⟩
      obtain ⟨hx1, hx2⟩ := HL.out x (List.mem_of_getElem? hx)
      have hxo := HOK.out x (List.mem_of_getElem? hx)
      have hxg : x.good = true := by simp only [Sp.pages, decide_eq_true_eq] at hx1; exact hx1.1
      have hxl : x.last = x.base + x.size - 1 := by rw [Sp.last, if_pos hxg]
      have hx0 : 0 < x.size := (Sp.good_iff.1 hxg).1
      have hst : l.take (k + 1) = l.take k ++ [x] := by rw [List.take_add_one, hx]; rfl
      have hsm : sumS (l.take (k + 1)) = sumS (l.take k) + x.size := by rw [hst, sumS_append]; simp [sumS]
      have hle : sumS (l.take k) + x.size ≤ 1099511627776 := by
        have h1 := HS.out
        have h2 : sumS l = sumS (l.take (k + 1)) + sumS (l.drop (k + 1)) := by rw [← sumS_append, List.take_append_drop]
        omega
      have hmp : mapsFrom 0 (l.take (k + 1)) = mapsFrom 0 (l.take k) ++ [⟨sumS (l.take k), x.base, x.size⟩] := by rw [hst, mapsFrom_append]; simp [mapsFrom]
      have hlast := last_any x hxo
      have hrng := rd_span (hR.below hB) k x hx
      have hszW := hB.size
      have hw1 : IntKind.u64.wrap (1099511627776 - ((sumS (l.take k) : Nat) : Int)) = 1099511627776 - ((sumS (l.take k) : Nat) : Int) := IntWalk.u64_in _ (by omega)
      have hw2 : IntKind.u64.wrap (((sumS (l.take k) : Nat) : Int) + (x.size : Int)) = ((sumS (l.take k) : Nat) : Int) + (x.size : Int) := IntWalk.u64_in _ (by omega)
      have hd1 : decide ((1099511627776 : Int) ≤ ((x.base + x.size - 1 : Nat) : Int)) = false := by simp; omega
      have hd2 : decide ((1099511627776 : Int) - ((sumS (l.take k) : Nat) : Int) < (x.size : Int)) = false := by simp; omega
      rw [hxl] at hlast
      obtain ⟨la, hla⟩ : ∃ la, la = x.base + x.size - 1 := ⟨_, rfl⟩
      rw [← hla] at hlast hd1
      obtain ⟨sk, hsk⟩ : ∃ sk, sk = sumS (l.take k) := ⟨_, rfl⟩
      simp only [← hsk] at hw1 hw2 hd1 hd2 hle hmp hsm
      rw [← hsk]
      have HMP := Lib.hid hmp
      have HSM := Lib.hid hsm
      have HSK := Lib.hid hsk
      clear hst hmp hsm hsk hla hxl hxg hx1 hx
      simp only [Sp.cells] at hlast hrng
      have hO2 := own_chg hO (Chg.of_ext (((Ext.refl wr).alloc (.cells #[.int .u64 (x.base : Int), .int .u64 (x.size : Int)] 25)))) (fun _ _ => id)
      have B2 : Below w.heap.size w (wr.alloc (.cells #[.int .u64 (x.base : Int), .int .u64 (x.size : Int)] 25)) := hB.alloc hB.size _
      have g2 := Blk.new wr 25 #[.int .u64 (x.base : Int), .int .u64 (x.size : Int)]
      have hla2 := hlast (wr.alloc (.cells #[.int .u64 (x.base : Int), .int .u64 (x.size : Int)] 25))
      clear hlast hO
      go_wp2_with (first
          | ((with_reducible refine at_load 25 ?_); refine wpList_load_mid rfl 25 _ rfl b (off + k * 2) rfl [.int .u64 (x.base : Int), .int .u64 (x.size : Int)] _ hrng Tryz.underlying25 rfl infSpan ?_))
      refine hla2.mono ?_
      rintro e w5 ⟨rfl, hB5⟩
      have g5 := g2.below hB5 g2.lt
      have B5 := B2.trans (hB5.mono B2.size)
      have hO5 := own_chg hO2 (Chg.of_below (Z := fun _ => False) hB5 (fun k h1 h2 => absurd h2 (by omega))) (fun _ _ => id)
      have x0 : w5.cell? ⟨wr.heap.size, 0, none⟩ = some (.int .u64 (x.base : Int)) := (g5.cell 0).trans rfl
      have x1 : w5.cell? ⟨wr.heap.size, 1, none⟩ = some (.int .u64 (x.size : Int)) := (g5.cell 1).trans rfl
      have hO6 := own_chg hO5 (Chg.of_ext (((Ext.refl w5).alloc (.cells #[.int .u64 (sk : Int), .int .u64 (x.base : Int), .int .u64 (x.size : Int), .int .i64 3, .int .i64 0] 91)))) (fun _ _ => id)
      have B6 : Below w.heap.size w (w5.alloc (.cells #[.int .u64 (sk : Int), .int .u64 (x.base : Int), .int .u64 (x.size : Int), .int .i64 3, .int .i64 0] 91)) := B5.alloc B5.size _
      have N6 := Blk.new w5 91 #[.int .u64 (sk : Int), .int .u64 (x.base : Int), .int .u64 (x.size : Int), .int .i64 3, .int .i64 0]
      have R6 := N6.rd (size := 5) (n := 1) rfl
      have g6 := g5.alloc (.cells #[.int .u64 (sk : Int), .int .u64 (x.base : Int), .int .u64 (x.size : Int), .int .i64 3, .int .i64 0] 91)
      have hbs := B6.size
      clear hla2 hO2 B2 g2 hB5 hO5 g5 N6
      go_wp2_with (first
          | (at_builtin; refine wpList_app _ elMap rfl _ _ rfl w.heap.size A2 k c2 _ rfl hO6 _ (some ⟨w5.heap.size, 0, none⟩) 1 1 [.int .u64 (sk : Int), .int .u64 (x.base : Int), .int .u64 (x.size : Int), .int .i64 3, .int .i64 0] rfl R6 (fun u hu => by simp only [List.mem_cons, List.not_mem_nil, or_false] at hu; rcases hu with rfl | rfl | rfl | rfl | rfl <;> rfl) (by omega) (by omega) hbs ?_; intro A3 c3 w3 hO3 hg3 hB3 hob; have g3 := g6.grown hg3 (fun e => own_ne hO6 g6 (by decide) e.symm rfl); have y1 : w3.cell? ⟨wr.heap.size, 1, none⟩ = some (.int .u64 (x.size : Int)) := (g3.cell 1).trans rfl))
      have hO4 : w3.ownsRow w.heap.size 91 5 (.slice A3 (k + 1) c3) (k + 1) (pcells (mapsFrom 0 (l.take (k + 1)))) := by rw [HMP.out, pcells_append, HSK.out]; rw [HSK.out] at hO3; exact hO3
      have B3 := B6.trans hB3
      go_roundw
      case rel => exact ⟨k + 1, by omega, by go_num, by rw [HSM.out]; rfl, A3, c3, rfl, hO4, B3⟩
      case measure => simp [intOf]; omega
    · obtain rfl : k = n := by omega
      have hfin : l.take k = l := List.take_of_length_le (by rw [HLN.out]; exact Nat.le_refl _)
      rw [hfin] at hO
      have hlm : Hid (l.length = k) := Lib.hid HLN.out
      go_wp2
      go_ret2
      exact ⟨A2, c2, by rw [hlm.out]; rfl, by rw [hlm.out]; exact hO, hB⟩
end Go.Proofs.YtpellkblaeeopaaGreatDoor
