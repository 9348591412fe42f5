/-
  Walks: ltree.Path refusing; portreeveref04.Path.
-/
import Derived.Test.YtgfdjfglfipjfaaDoorPathA
import Derived.Test.YtgfdjfglfipjfaaDoorBH
namespace Go.Proofs.YtgfdjfglfipjfaaDoor
open Go.RowKit Sha

def PathNo (w : World) (e : Ending) (w' : World) : Prop := e = .returned (.tuple #[.slice none 0 0, .agg (bcells znode).toArray, .bool false]) ∧ Below w.heap.size w w'

theorem zn_store {w : World} {g : Nat} (hN : Blk w g 24 zn) : ∃ w', Sem.run Tryd.prog (storeCells ⟨g, 0, none⟩ zn.toList) w = .ok () w' ∧ Blk w' g 24 zn ∧ w.grownBy w' (some g) := by
  have ht := hN.there 0 zn.size (by omega)
  obtain ⟨h2, h3, h4⟩ := Blk.setCells zn.toList 0 w zn hN (by simp)
  refine ⟨w.setCells g 0 zn.toList, ?_, by rw [splice_all _ _ (by simp)] at h2; exact h2, h3⟩
  have := run_storeCells_cells (P := Tryd.prog) g 0 zn.toList 0 w (fun j hj => by simpa using (ht j (by simpa using hj)).1) (fun j hj => by simpa using (ht j (by simpa using hj)).2)
    (fun v hv => bcells_one znode v (by simpa [zn] using hv))
  simpa using this

set_option maxRecDepth 100000 in
set_option maxHeartbeats 2000000 in
theorem mpath_no (A : Option Addr) (n c : Nat) (hn : n ≤ 40) (idx : Nat) (hidx : idx < 4294967296) (hbad : powK n = false ∨ n ≤ idx) (sd : Nd) (w : World) :
    Calls Tryd.prog 17 #[.slice A n c, .int .u32 (idx : Int), .agg (bcells sd).toArray] w (PathNo w) := by
  have hz := zeroNode
  have hN := blk_new1 w (.cells (bcells sd).toArray 24) 24 zn
  have B0 : Below w.heap.size w ((w.alloc (.cells (bcells sd).toArray 24)).alloc (.cells zn 24)) := ((Below.refl _ _).alloc (Nat.le_refl _) _).alloc (by simp) _
  have hzs : Hid (zn.size = 32) := Lib.hid (by kernel_rfl)
  have hone : Hid (∀ v ∈ zn.toList, v.oneCell' = true) := Lib.hid (fun v hv => bcells_one znode v (by simpa [zn] using hv))
  have hwi : IntKind.u64.wrap (idx : Int) = (idx : Int) := by rw [IntKind.wrap_u64]; omega
  have hwn : IntKind.u64.wrap (n : Int) = (n : Int) := by rw [IntKind.wrap_u64]; omega
  have Hn := Lib.hid hn
  have Hbad := Lib.hid hbad
  clear hbad
  go_enter Tryd.func17, Tryd.ntmps17
  go_wp2_with fail
  refine (ones_any n hn _).mono ?_
  rintro e w' ⟨⟨r, rfl, hr⟩, rfl⟩
  generalize (w.alloc (.cells (bcells sd).toArray 24)).alloc (.cells zn 24) = W0 at *
  obtain ⟨w5, hst, h5, hg5⟩ := zn_store hN
  by_cases e1 : r = 1
  · subst e1
    have hni : (n : Int) ≤ (idx : Int) := by
      rcases Hbad.out with h | h
      · rw [hr.1 rfl] at h; cases h
      · omega
    clear hr hn hidx
    go_wp2_with fail
    simp only [show decide ((1024 : Int) < (n : Int)) = false from decide_eq_false (by have := Hn.out; omega)]
    go_wp2_with fail
    all_goals
      refine bodyPost_ret (results_tct rfl _ _ (w.heap.size + 1) _ _ _ _ rfl h5 Tryd.underlying24 rfl (by rw [hzs.out]; exact infNode)) rfl ⟨rfl, ?_⟩
      exact grown_below B0 hg5 B0.size (by omega)
  · have e2 : (r == 1) = false := by simpa using e1
    clear hr hn hidx
    go_wp2_with fail
    all_goals
      refine bodyPost_ret (results_tct rfl _ _ (w.heap.size + 1) _ _ _ _ rfl h5 Tryd.underlying24 rfl (by rw [hzs.out]; exact infNode)) rfl ⟨rfl, ?_⟩
      exact grown_below B0 hg5 B0.size (by omega)

theorem run_treeAd (h k : Nat) (W : World) : (Instr.build 35 #[(2, .int .u32 2), (4, .int .u32 (h : Int)), (5, .int .u32 (k : Int))]).run Tryd.prog W = .ok (.agg (treeAd h k).cells) W := by kernel_rfl

set_option maxRecDepth 100000 in
set_option maxHeartbeats 4000000 in
theorem rpath_in (sd : Nd) (hsd : sd.length = 32) (idx : Nat) (hidx : idx < 4294967296) (A0 : Option Addr) (n0 cc0 : Nat) (ns : List Nd) (hn0 : n0 = ns.length) (h32 : All32 ns) (hn40 : n0 ≤ 40) (w : World) (hR : Rd w w.heap.size 32 A0 n0 (ncells ns))
    (Q : Ending → World → Prop) (hyes : ∀ h, h < 6 → n0 = 2 ^ h → idx < n0 → ∀ e w', PathRet w sd ns idx h e w' → Q e w') (hno : (powK n0 = false ∨ n0 ≤ idx) → ∀ e w', PathNo w e w' → Q e w') :
    Calls Tryd.prog 18 #[.slice A0 n0 cc0, .int .u32 (idx : Int), .agg (bcells sd).toArray] w Q := by
  have hz := zeroNode
  have sdL := Lib.hid hsd
  have H32 := Lib.hid h32
  have Hn0 := Lib.hid hn0
  have Hyes := Lib.hid hyes
  have Hno := Lib.hid hno
  have hS := (Blk.new w 24 (bcells sd).toArray).alloc (.cells zn 24)
  have hN := blk_new1 w (.cells (bcells sd).toArray 24) 24 zn
  have B0 : Below w.heap.size w ((w.alloc (.cells (bcells sd).toArray 24)).alloc (.cells zn 24)) := ((Below.refl _ _).alloc (Nat.le_refl _) _).alloc (by simp) _
  have hzs : Hid (zn.size = 32) := Lib.hid (by kernel_rfl)
  have hwi : IntKind.u64.wrap (idx : Int) = (idx : Int) := by rw [IntKind.wrap_u64]; omega
  have hwn : IntKind.u64.wrap (n0 : Int) = (n0 : Int) := by rw [IntKind.wrap_u64]; omega
  clear hsd h32 hn0 hyes hno
  go_enter Tryd.func18, Tryd.ntmps18
  go_wp2_with fail
  generalize (w.alloc (.cells (bcells sd).toArray 24)).alloc (.cells zn 24) = W0 at *
  go_loopw [9] (fun v wr => ∃ k : Nat, v = .int .i64 (k : Int) ∧ k ≤ 6 ∧ (∀ j, j < k → 2 ^ j < n0) ∧ wr = W0) (fun v _ => 7 - (intOf v).toNat)
  case atStart => exact ⟨0, rfl, by omega, fun j hj => by omega, rfl⟩
  case round =>
    obtain ⟨h, rfl, hk, hlt, rfl⟩ := hrel
    have Hlt := Lib.hid hlt
    clear hlt
    obtain ⟨pw, hp⟩ : ∃ pw, pw = 2 ^ h := ⟨_, rfl⟩
    have hp6 : 2 ^ h ≤ 2 ^ 6 := Nat.pow_le_pow_right (by omega) hk
    have hk10 : (h : Int) ≤ 10 := by omega
    have hsh : wrap64 (2 ^ h) = (pw : Int) := by
      have e : ((2 : Int) ^ h) = ((2 ^ h : Nat) : Int) := by simp
      rw [e, ← hp]
      exact IntWalk.wrap64_in _ (by omega)
    have Hpw := Lib.hid hp
    have Hk := Lib.hid hk
    by_cases hgt : pw < n0
    · have hk6 : Hid (h < 6) := Lib.hid (by
        rcases Nat.lt_or_ge h 6 with h0 | h0
        · exact h0
        · have : h = 6 := by omega
          subst this; omega)
      have hwk : IntKind.i64.wrap ((h : Int) + 1) = ((h + 1 : Nat) : Int) := by rw [IntKind.wrap_i64]; omega
      clear hp hp6
      go_wp2_with fail
      go_roundw
      case rel => exact ⟨h + 1, by first | rfl | go_num, by have := hk6.out; omega, fun j hj => by
        rcases Nat.lt_or_ge j h with h0 | h0
        · exact Hlt.out j h0
        · rw [show j = h by omega, ← Hpw.out]; exact hgt, by first | rfl | trivial⟩
      case measure =>
        have := hk6.out
        simp [intOf]; omega
    · by_cases hpn : pw = n0
      · have hhk : Hid (h < 6) := Lib.hid (by
          rcases Nat.lt_or_ge h 6 with h0 | h0
          · exact h0
          · have : h = 6 := by omega
            subst this; omega)
        by_cases hii : idx < n0
        · have Hii := Lib.hid hii
          have Hpwn := Lib.hid hpn
          have hiI : ¬ (n0 : Int) ≤ (idx : Int) := by omega
          clear hp hp6 hii hgt
          subst hpn
          have hj : ∀ k i a b, (joinT sd k i a b).length = 32 := fun _ _ _ _ => keyed_length _ _
          obtain ⟨gb, hgbe⟩ : ∃ g, g = w.heap.size + 2 := ⟨_, rfl⟩
          have hsz0 : gb ≤ wr.heap.size := by have := B0.size; have := hN.lt; omega
          obtain ⟨ab0, ao0, rfl, hab0, hrg0⟩ := hR.range (by have := Nat.two_pow_pos h; have := Hpw.out; omega)
          have hrg1 := hrg0.later B0 hab0
          have hab1 : ab0 < wr.heap.size := Nat.lt_of_lt_of_le hab0 B0.size
          clear hrg0 hab0 hR
          go_wp2_with fail
          simp only [show decide ((10 : Int) < (h : Int)) = false from decide_eq_false (by have := Hk.out; omega)]
          generalize wr = W0 at *
          go_loopw [10, 11, 12] (fun v10 v11 v12 wr => ∃ (lev ab ao n c : Nat) (cur : List Nd) (A1 : Option Addr) (c1 : Nat), v10 = .slice A1 lev c1 ∧ v11 = .slice (some ⟨ab, ao, none⟩) n c ∧ v12 = .int .i64 (lev : Int) ∧ lev ≤ h ∧ cur = lvl sd ns lev ∧ n = cur.length ∧ n = 2 ^ (h - lev) ∧
            ab < wr.heap.size ∧ wr.rangeAt ab ao (ncells cur) ∧ (Value.slice A1 lev c1).ownBlock ≠ some ab ∧ wr.ownsRow gb 24 32 (.slice A1 lev c1) lev (ncells (authN sd ns idx lev)) ∧
            Blk wr w.heap.size 24 (bcells sd).toArray ∧ Blk wr (w.heap.size + 1) 24 zn ∧ Below w.heap.size w wr) (fun _ _ v _ => h - (intOf v).toNat)
          case atStart => exact ⟨0, ab0, ao0, pw, cc0, ns, none, 0, rfl, rfl, rfl, Nat.zero_le _, rfl, Hn0.out, Hpw.out, hab1, hrg1, by simp [Value.ownBlock], World.ownsRow_nil _ _ _ _, hS, hN, B0⟩
          case round =>
            clear hS hN B0 hrg1 hab1 hsz0
            obtain ⟨wo, rfl⟩ : ∃ wo : World, wo = wr := ⟨_, rfl⟩
            obtain ⟨lev, ab, ao, n, c0, cur, A1, c1, rfl, rfl, rfl, hlev, hcur, hn, hn2, hab, hrg, hne, hO, hV0, hN0, hB0⟩ := hrel
            have Hcur := Lib.hid hcur
            have Hn := Lib.hid hn
            have Hall : Hid (All32 cur) := Lib.hid (by rw [hcur]; exact lvl_all sd ns H32.out lev)
            have hk2 : 2 ^ h = 2 ^ (h - lev) * 2 ^ lev := by rw [← Nat.pow_add, Nat.sub_add_cancel hlev]
            obtain ⟨q, hq⟩ : ∃ q, q = idx / 2 ^ lev := ⟨_, rfl⟩
            have hqn : q < n := by
              rw [hq, hn2, Nat.div_lt_iff_lt_mul (Nat.two_pow_pos lev), ← hk2, ← Hpw.out]; exact Hii.out
            have hnp : 2 ^ (h - lev) ≤ 2 ^ 5 := Nat.pow_le_pow_right (by omega) (by have := hhk.out; omega)
            have hn32 : n ≤ 32 := by omega
            have hgbw : gb ≤ wo.heap.size := by have := hB0.size; have := hN0.lt; omega
            clear hcur hn hk2 hnp
            by_cases hgt : lev < h
            · have hn2' : n = 2 * 2 ^ (h - (lev + 1)) := by rw [hn2, show h - lev = (h - (lev + 1)) + 1 by omega, Nat.pow_succ]; omega
              obtain ⟨qx, hqx⟩ : ∃ qx, qx = q ^^^ 1 := ⟨_, rfl⟩
              have hqx2 : qx < n := by
                rw [hqx, xor1]; split <;> omega
              have hq0 : ((idx : Int) / 2 ^ lev) = (q : Int) := by rw [hq]; simp
              have hx1 : IntKind.u32.wrap (bits .xor .u32 (q : Int) 1) = (qx : Int) := by rw [hqx]; exact xor_u32 q (by omega)
              have hx2 : bits .xor .u32 (q : Int) 1 = (qx : Int) := by rw [hqx]; exact xor_u32' q (by omega)
              have hx3 : bits .xor .u32 ((idx : Int) / 2 ^ lev) 1 = (qx : Int) := by rw [hq0]; exact hx2
              have hqN : qx < cur.length := by rw [← Hn.out]; exact hqx2
              have hqi : (qx : Int) < (n : Int) := by omega
              have hx := range_node hrg Hall.out qx hqN
              have hxl := Hall.out _ (List.getElem_mem hqN)
              have hau : Hid (ncells (authN sd ns idx lev) ++ bcells cur[qx] = ncells (authN sd ns idx (lev + 1))) := Lib.hid (by
                rw [authN_succ, ncells_snoc, ← Hcur.out, ← hq, ← hqx, at_get _ _ hqN])
              obtain ⟨x, ex⟩ : ∃ x, x = cur[qx] := ⟨_, rfl⟩
              rw [← ex] at hx hxl hau
              have xL := Lib.hid hxl
              have HRx : Hid (Rd (wo.alloc (.cells (bcells x).toArray 24)) (wo.alloc (.cells (bcells x).toArray 24)).heap.size 32 (some ⟨wo.heap.size, 0, none⟩) 1 (bcells x)) := Lib.hid (by
                have := (Blk.new wo 24 (bcells x).toArray).rd (size := 32) (n := 1) (by simp [bcells_length, hxl])
                simpa using this)
              clear ex hxl hqN
              have Hqx := Lib.hid hqx
              have Hq := Lib.hid hq
              have Hn2p := Lib.hid hn2'
              have Hqn := Lib.hid hqn
              clear hqx hq hn2 hn2' hqn
              go_wp2_with (first
                | ((with_reducible refine at_load 24 ?_); refine wpList_runV rfl (reg_loadRange 24 56 rfl rfl hx Tryd.underlying24 rfl (by rw [List.size_toArray, bcells_length, xL.out]; exact infNode)) ?_)
                | ((with_reducible refine at_buildSlice 22 ?_); refine wpList_runV rfl (Flow.reg_buildSlice #[(0, .agg (bcells x).toArray)] rfl (by first | rfl | simp [Act.eval, Act.put]) (run_nodeS wo x xL.out)) ?_)
                | ((with_reducible refine at_append ?_); refine wpList_app _ elNz rfl _ _ rfl gb A1 lev c1 (ncells (authN sd ns idx lev)) rfl (hO.alloc _) _ (some ⟨wo.heap.size, 0, none⟩) 1 1 (bcells x) rfl HRx.out (bcells_one x) (by omega) (by omega) (by simp; omega) ?_; intro A9 c9 w9 hO9 hg9 hB9 _))
              have hrg9 := range_grown (hrg.later (B := wo.heap.size) ((Below.refl _ _).alloc (Nat.le_refl _) _) hab) hg9 (fun e => hne e.symm)
              have hab9 : ab < w9.heap.size := by have := hg9.size; simp at this; omega
              have hB90 : Below gb wo w9 := ((Below.refl _ wo).alloc hgbw _).trans hB9
              have hV9 := hV0.below hB90 (by omega)
              have hN9 := hN0.below hB90 (by omega)
              have hB9w := hB0.trans (hB90.mono (by omega))
              have hgb9 : gb ≤ w9.heap.size := Nat.le_trans hgbw hB90.size
              rw [hau.out] at hO9
              have hevn : n / 2 * 2 = n := by have := Hn2p.out; omega
              have hn2h : Hid (n / 2 = 2 ^ (h - (lev + 1))) := Lib.hid (by have := Hn2p.out; omega)
              clear hrg hO hg9 hB9 hV0 hN0 hB0 hB90 hx HRx hab hx1 hx2 hx3 hq0 hqi hgbw hne
              obtain ⟨jl, hjl⟩ : ∃ jl : Nat → Nd, jl = fun i => joinT sd lev i (at_ cur (2 * i)) (at_ cur (2 * i + 1)) := ⟨_, rfl⟩
              have hup : Hid (upL (joinT sd lev) cur = upto jl (n / 2)) := Lib.hid (by
                rw [hjl]
                unfold upL
                rw [← Hn.out, hevn, List.drop_eq_nil_of_le (by have := Hn.out; omega), List.append_nil])
              have HJ := Lib.hid hjl
              clear hjl
              obtain ⟨g0, hg0e⟩ : ∃ g, g = w9.heap.size := ⟨_, rfl⟩
              have Hg0 := Lib.hid hg0e
              have hVl := hV9.lt
              have hNl := hN9.lt
              rw [← hg0e] at hab9 hVl hNl
              have hab := hab9
              have hrg := hrg9
              clear hg0e hab9 hrg9
              go_loopw [13, 14] (fun v i wr => ∃ (k : Nat) (A : Option Addr) (c : Nat), k ≤ n / 2 ∧ v = .slice A k c ∧ i = .int .i64 ((2 * k : Nat) : Int) ∧ wr.ownsRow g0 24 32 (.slice A k c) k (ncells (upto jl k)) ∧ Below g0 w9 wr) (fun _ i _ => n - (intOf i).toNat)
              case atStart => exact ⟨0, none, 0, Nat.zero_le _, rfl, rfl, World.ownsRow_nil _ _ _ _, by rw [Hg0.out]; exact Below.refl _ _⟩
              case round =>
                obtain ⟨k, A, c, hk', rfl, rfl, hO, hBl⟩ := hrel
                have hgr : g0 ≤ wr.heap.size := by have := Hg0.out; have := hBl.size; omega
                obtain ⟨p, hp⟩ : ∃ p, p = 2 * k := ⟨_, rfl⟩
                obtain ⟨p1, hp1⟩ : ∃ p, p = 2 * k + 1 := ⟨_, rfl⟩
                rw [← hp]
                have hwp1 : IntKind.i64.wrap ((p : Int) + 1) = (p1 : Int) := by rw [IntKind.wrap_i64]; omega
                by_cases hin : k < n / 2
                · have hg0 : g0 ≤ wr.drew.heap.size := hgr
                  have hpN : p < cur.length := by have := Hn.out; omega
                  have hp1N : p1 < cur.length := by have := Hn.out; omega
                  have hx1 := (range_node hrg Hall.out p hpN).later hBl hab
                  have hx2 := (range_node hrg Hall.out p1 hp1N).later hBl hab
                  have hxl := Hall.out _ (List.getElem_mem hpN)
                  have hyl := Hall.out _ (List.getElem_mem hp1N)
                  obtain ⟨x1, ex1⟩ : ∃ x, x = cur[p] := ⟨_, rfl⟩
                  obtain ⟨x2, ex2⟩ : ∃ x, x = cur[p1] := ⟨_, rfl⟩
                  rw [← ex1] at hx1 hxl
                  rw [← ex2] at hx2 hyl
                  obtain ⟨S, hSe⟩ : ∃ S, S = randH x1 x2 sd (treeAd lev k) := ⟨_, rfl⟩
                  have HSl : Hid (S.length = 32) := Lib.hid (by rw [hSe]; exact keyed_length _ _)
                  have HU : Hid (upto jl (k + 1) = upto jl k ++ [S]) := Lib.hid (by
                    rw [upto_succ, HJ.out, hSe, ex1, ex2]
                    subst hp hp1
                    simp only [joinT, at_get _ _ hpN, at_get _ _ hp1N])
                  have HS := Lib.hid hSe
                  have x1L := Lib.hid hxl
                  have x2L := Lib.hid hyl
                  have hV99 := hV9
                  have hV9 := (hV99.below hBl hVl).drew
                  have hok : (treeAd lev k).ok := treeAd_ok (by have := hhk.out; omega) (by omega)
                  have hpi : (p : Int) < (n : Int) := by omega
                  have hp1i : (p1 : Int) < (n : Int) := by omega
                  have hpk : IntKind.i64.wrap ((p : Int) / 2) = (k : Int) := by rw [IntKind.wrap_i64]; omega
                  have hwk : IntKind.u32.wrap (k : Int) = (k : Int) := IntWalk.u32_in _ (by omega)
                  have hwl : IntKind.u32.wrap (lev : Int) = (lev : Int) := IntWalk.u32_in _ (by have := hhk.out; omega)
                  have hwp2 : IntKind.i64.wrap ((p : Int) + 2) = ((2 * (k + 1) : Nat) : Int) := by rw [IntKind.wrap_i64]; omega
                  have hk1000 : k ≤ 1000 := by omega
                  have hx1 : wr.drew.rangeAt ab (ao + p * 32) (bcells x1) := hx1
                  have hx2 : wr.drew.rangeAt ab (ao + p1 * 32) (bcells x2) := hx2
                  clear ex1 ex2 hSe hxl hyl hpN hp1N hV99
                  have Hp := Lib.hid hp
                  clear hp hp1 hO9 hevn
                  generalize upto jl k = ns0 at *
                  go_wp2_with fail
                  refine Flow.wp_region_flow (g0) [(19, fun b => (Value.slice A k c).ownBlock = some b)] [(19, fun W => W.ownsRow g0 24 32 (.slice A k c) k (ncells ns0))] (by kernel_rfl) (by kernel_rfl) hg0 (Flow.nz_cons (fun b hb => (own_some hO hb).1) Flow.nz_nil) (Flow.facts_cons (hO.drew) (Flow.kept_own (fun _ _ => id)) (Flow.fz_cons (Flow.no_follow (by kernel_rfl)) Flow.fz_nil) Flow.facts_nil) ?_
                  refine Flow.pass_old 13 (Flow.met_none rfl) (.inl rfl) (by kernel_rfl) (by kernel_rfl) rfl ?_
                  refine Flow.pass_old (X := .slice (some ⟨ab, ao, none⟩) n c0) 11 (Flow.met_none rfl) (.inl rfl) (by kernel_rfl) (by kernel_rfl) rfl ?_
                  refine Flow.pass_old (X := .int .i64 (p : Int)) 14 (Flow.met_none rfl) (.inl rfl) (by kernel_rfl) (by kernel_rfl) rfl ?_
                  refine Flow.pass_val (.pointer (some ⟨ab, ao + p * 32, none⟩)) (Flow.met_none rfl) (fun a W hH => ?_) ?_
                  · have e0 := Flow.see_new 67 1 hH.sees (by kernel_rfl) (by kernel_rfl) rfl rfl
                    have e1 := Flow.see_new 68 2 hH.sees (by kernel_rfl) (by kernel_rfl) rfl rfl
                    go_simp
                  refine Flow.pass_val (.agg (bcells x1).toArray) (Flow.met_none rfl) (fun a W hH => ?_) ?_
                  · have e0 := Flow.see_new 69 3 hH.sees (by kernel_rfl) (by kernel_rfl) rfl rfl
                    exact reg_loadRange 24 _ rfl e0 (hx1.later hH.below hab) Tryd.underlying24 rfl (by rw [List.size_toArray, bcells_length, x1L.out]; exact infNode)
                  refine Flow.pass_old (X := .slice (some ⟨ab, ao, none⟩) n c0) 11 (Flow.met_none rfl) (.inl rfl) (by kernel_rfl) (by kernel_rfl) rfl ?_
                  refine Flow.pass_old (X := .int .i64 (p : Int)) 14 (Flow.met_none rfl) (.inl rfl) (by kernel_rfl) (by kernel_rfl) rfl ?_
                  refine Flow.pass_val (.int .i64 (p1 : Int)) (Flow.met_none rfl) (fun a W hH => ?_) ?_
                  · have e0 := Flow.see_new 72 6 hH.sees (by kernel_rfl) (by kernel_rfl) rfl rfl
                    go_simp; first | done | rfl | rw [hwp1]
                  refine Flow.pass_val (.pointer (some ⟨ab, ao + p1 * 32, none⟩)) (Flow.met_none rfl) (fun a W hH => ?_) ?_
                  · have e0 := Flow.see_new 71 5 hH.sees (by kernel_rfl) (by kernel_rfl) rfl rfl
                    have e1 := Flow.see_new 73 7 hH.sees (by kernel_rfl) (by kernel_rfl) rfl rfl
                    go_simp
                  refine Flow.pass_val (.agg (bcells x2).toArray) (Flow.met_none rfl) (fun a W hH => ?_) ?_
                  · have e0 := Flow.see_new 74 8 hH.sees (by kernel_rfl) (by kernel_rfl) rfl rfl
                    exact reg_loadRange 24 _ rfl e0 (hx2.later hH.below hab) Tryd.underlying24 rfl (by rw [List.size_toArray, bcells_length, x2L.out]; exact infNode)
                  refine Flow.pass_val (.agg (bcells sd).toArray) (Flow.met_none rfl) (fun a W hH => ?_) ?_
                  · have e0 := Flow.see_old 5 hH.sees (by kernel_rfl) (by kernel_rfl) rfl
                    exact reg_load 24 _ rfl e0 (hV9.below hH.below hVl) Tryd.underlying24 rfl (by rw [List.size_toArray, bcells_length, sdL.out]; exact infNode)
                  refine Flow.pass_old (X := .int .i64 (lev : Int)) 12 (Flow.met_none rfl) (.inl rfl) (by kernel_rfl) (by kernel_rfl) rfl ?_
                  refine Flow.pass_val (.int .u32 (lev : Int)) (Flow.met_none rfl) (fun a W hH => ?_) ?_
                  · have e0 := Flow.see_new 77 11 hH.sees (by kernel_rfl) (by kernel_rfl) rfl rfl
                    go_simp; first | done | rfl | rw [hwl]
                  refine Flow.pass_old (X := .int .i64 (p : Int)) 14 (Flow.met_none rfl) (.inl rfl) (by kernel_rfl) (by kernel_rfl) rfl ?_
                  refine Flow.pass_val (.int .i64 (k : Int)) (Flow.met_none rfl) (fun a W hH => ?_) ?_
                  · have e0 := Flow.see_new 79 13 hH.sees (by kernel_rfl) (by kernel_rfl) rfl rfl
                    go_simp; first | done | rfl | rw [hpk]
                  refine Flow.pass_val (.int .u32 (k : Int)) (Flow.met_none rfl) (fun a W hH => ?_) ?_
                  · have e0 := Flow.see_new 80 14 hH.sees (by kernel_rfl) (by kernel_rfl) rfl rfl
                    go_simp; first | done | rfl | rw [hwk]
                  refine Flow.pass_val (.agg (treeAd lev k).cells) (Flow.met_none rfl) (fun a W hH => ?_) ?_
                  · have e0 := Flow.see_new 78 12 hH.sees (by kernel_rfl) (by kernel_rfl) rfl rfl
                    have e1 := Flow.see_new 81 15 hH.sees (by kernel_rfl) (by kernel_rfl) rfl rfl
                    exact Flow.reg_build _ rfl (by simp [Act.eval, e0, e1]) (run_treeAd lev k W)
                  refine Flow.pass_step (Reg.eqs (.agg (bcells S).toArray)) (fun _ _ => Flow.kept_eqs _ _) (Flow.met_none rfl) (fun a W hH => ?_) ?_
                  · have e0 := Flow.see_new 70 4 hH.sees (by kernel_rfl) (by kernel_rfl) rfl rfl
                    have e1 := Flow.see_new 75 9 hH.sees (by kernel_rfl) (by kernel_rfl) rfl rfl
                    have e2 := Flow.see_new 76 10 hH.sees (by kernel_rfl) (by kernel_rfl) rfl rfl
                    have e3 := Flow.see_new 82 16 hH.sees (by kernel_rfl) (by kernel_rfl) rfl rfl
                    refine Reg.wp_call rfl Tryd.func16 rfl (by kernel_rfl) (by simp [Act.eval, e0, e1, e2, e3]) (rrand_any x1 x2 sd x1L.out x2L.out sdL.out (treeAd lev k) hok W) ?_
                    rintro e w' ⟨rfl, hB⟩
                    rw [← HS.out]
                    exact ⟨_, rfl, _, rfl, hB, rfl⟩
                  refine Flow.pass_gen (fun v W => ∃ b, v = .slice (some ⟨b, 0, none⟩) 1 1 ∧ (wr.heap.size ≤ b ∧ Blk W b 24 (bcells S).toArray)) (Flow.kept_of (fun _ _ _ c ⟨b, h1, h2, h3⟩ => ⟨b, h1, h2, h3.chg c id⟩) (Flow.kz_cons (fun _ => fun _ _ _ c ⟨b, h1, h2, h3⟩ => ⟨b, h1, h2, h3.chg c (fun hb => by have := (own_some hO hb).2; omega)⟩) Flow.kz_nil)) (Flow.met_none rfl) (fun a W hH => ?_) ?_
                  · have e0 := Flow.see_new 83 17 hH.sees (by kernel_rfl) (by kernel_rfl) rfl rfl
                    refine Flow.wp_run (Flow.reg_buildSlice _ rfl (by simp [Act.eval, e0]) (run_nodeS W S HSl.out)) ?_
                    exact ⟨_, rfl, Chg.of_ext ((Ext.refl W).alloc _), W.heap.size, rfl, hH.below.size, Blk.new _ _ _⟩
                  refine Flow.pass_list (fun v W => ∃ A1 c1, v = .slice A1 (k + 1) c1 ∧ W.ownsRow g0 24 32 (.slice A1 (k + 1) c1) (k + 1) ((ncells ns0) ++ bcells S)) (Flow.kept_of (fun _ _ _ c ⟨A1, c1, h1, h2⟩ => ⟨A1, c1, h1, own_chg h2 c (fun _ _ => id)⟩) (Flow.kz_cons (Flow.no_follow (by kernel_rfl)) Flow.kz_nil)) (Flow.met_none rfl) (fun a W hH => ?_) ?_
                  · have e0 := Flow.see_new 66 0 hH.sees (by kernel_rfl) (by kernel_rfl) rfl rfl
                    obtain ⟨b1, e1, q1⟩ := Flow.see_up 84 18 hH.sees (by kernel_rfl) (by kernel_rfl) rfl rfl
                    have fa0 : (fun W => W.ownsRow g0 24 32 (.slice A k c) k (ncells ns0)) W := hH.fact _ (List.mem_of_getElem? (i := 0) rfl) rfl
                    refine wpList_app W elNz rfl _ _ rfl g0 A k c _ (by simpa [Act.eval] using e0) fa0 W.heap.size (some ⟨b1, 0, none⟩) 1 1 (bcells S) (by simpa [Act.eval] using e1) (by have := q1.2.rd (size := 32) (n := 1) (by simp [bcells_length, HSl.out]); simpa using this) (bcells_one S) (by omega) (by omega) (Nat.le_trans hg0 hH.below.size) ?_
                    intro A1 c1 W2 hO2 hg hB _
                    exact Flow.qq_nil ⟨_, rfl, Chg.grown hg (fun b hb => hb), A1, c1, rfl, hO2⟩
                  refine Flow.pass_copy 85 19 (Flow.met_none rfl) (.inr rfl) (by kernel_rfl) (by kernel_rfl) rfl rfl (Flow.kept_of (fun _ _ _ c ⟨A1, c1, h1, h2⟩ => ⟨A1, c1, h1, own_chg h2 c (fun _ _ => id)⟩) (Flow.kz_cons (Flow.no_follow (by kernel_rfl)) Flow.kz_nil)) ?_
                  refine Flow.pass_end [none, none, none, none, none, none, none, none, none, none, none, none, none, some 13, none, none, none, none, none, none, none, none, none, none, none, none, none, none, none, none, none, none, none, none, none, none, none, none, none, none, none, none, none, none, none, none, none, none, none, none, none, none, none, none, none, none, none, none, none, none, none, none, none, none, none, none, some 66, some 67, some 68, some 69, some 70, some 71, some 72, some 73, some 74, some 75, some 76, some 77, some 78, some 79, some 80, some 81, some 82, some 83, some 84, some 85, none, none, none, none, none] (by kernel_rfl) ?_
                  intro f gg w9 hB hfa hT hfg
                  obtain ⟨A113, c113, h13, g13⟩ := hT 20 _ (by kernel_rfl) rfl
                  rw [← hfg 13 20 (by kernel_rfl)] at h13
                  simp only [Reg.sel, h13]
                  have hB9 := (hBl.drew).trans hB
                  clear hfa hT hfg hV9 hx1 hx2 hpk hwk
                  go_wp2_with fail
                  go_roundw
                  case rel => exact ⟨k + 1, A113, c113, by omega, rfl, by first | rfl | go_num | (simp only [Value.int.injEq, true_and]; have := Hp.out; omega), by rw [HU.out, ncells_snoc]; exact g13, hB9⟩
                  case measure =>
                    have := Hp.out
                    simp [intOf]; omega
                · obtain rfl : k = n / 2 := by omega
                  have hp1i : ¬ (p : Int) < (n : Int) := by omega
                  have hpos : 0 < n / 2 := by rw [hn2h.out]; exact Nat.two_pow_pos _
                  rw [← hup.out] at hO
                  have hlen : Hid ((upL (joinT sd lev) cur).length = n / 2) := Lib.hid (by rw [hup.out, upto_length])
                  have hupl : Hid (upL (joinT sd lev) cur = lvl sd ns (lev + 1)) := Lib.hid (by rw [Hcur.out]; rfl)
                  generalize upL (joinT sd lev) cur = cur2 at *
                  obtain ⟨ab', ao', rfl, hba, hab', hrg'⟩ := own_there hO hpos
                  have hne' : (Value.slice A9 (lev + 1) c9).ownBlock ≠ some ab' := fun e => by have := (own_some hO9 e).2; have := Hg0.out; omega
                  have hO1 : wr.ownsRow gb 24 32 (.slice A9 (lev + 1) c9) (lev + 1) (ncells (authN sd ns idx (lev + 1))) := own_chg hO9 (Chg.of_ext (Z := fun _ => False) (by rw [Hg0.out] at hBl; exact hBl)) (fun _ _ => id)
                  have hV1 := hV9.below hBl hVl
                  have hN1 := hN9.below hBl hNl
                  have hB1 := hB9w.trans (hBl.mono (by have := hB9w.size; have := Hg0.out; omega))
                  obtain ⟨m, hm⟩ : ∃ m, m = n / 2 := ⟨_, rfl⟩
                  have Hm := Lib.hid hm
                  have hwl : IntKind.i64.wrap ((lev : Int) + 1) = ((lev + 1 : Nat) : Int) := by rw [IntKind.wrap_i64]; have := hhk.out; omega
                  have Hgt := Lib.hid hgt
                  rw [← hm] at hO hlen hn2h ⊢
                  clear hO hO9 hV9 hN9 hB9w hBl hrg HJ hup hp hp1 hpos hm hevn
                  go_wp2_with fail
                  go_roundw
                  case rel => exact ⟨lev + 1, ab', ao', m, c, cur2, A9, c9, rfl, rfl, by first | rfl | go_num, Hgt.out, hupl.out, hlen.out.symm, hn2h.out, hab', hrg', hne', hO1, hV1, hN1, hB1⟩
                  case measure =>
                    have := Hgt.out
                    simp [intOf]; omega
            · have hlh : lev = h := by omega
              have hn1 : n = 1 := by rw [hn2, hlh, Nat.sub_self]
              subst hlh hn1
              have hx := range_node hrg Hall.out 0 (by have := Hn.out; omega)
              have hxl := Hall.out _ (List.getElem_mem (show 0 < cur.length by have := Hn.out; omega))
              have hxe : cur[0]'(by have := Hn.out; omega) = at_ (lvl sd ns lev) 0 := by
                rw [← Hcur.out, at_get]
              obtain ⟨S, hSe⟩ : ∃ S, S = at_ (lvl sd ns lev) 0 := ⟨_, rfl⟩
              rw [hxe, ← hSe] at hx hxl
              simp only [Nat.zero_mul, Nat.add_zero] at hx
              have hx : wo.rangeAt ab ao (bcells S) := hx
              have HSl := Lib.hid hxl
              have HS := Lib.hid hSe
              have hN := hN0
              have hNl := hN.lt
              have hJB := hB0
              have hO1 := hO.drew
              have hwb : w.heap.size + 1 ≤ wo.drew.heap.size := Nat.le_of_lt hNl
              have habw : ab < wo.drew.heap.size := hab
              have hpc := Flow.own_le hO
              clear hSe hxe hq hn2 hqn hn32 hrg hne hxl
              go_wp2_with fail
              refine Flow.wp_region_flow (w.heap.size + 1) [(5, fun b => b = w.heap.size + 1)] [(5, fun W => Blk W (w.heap.size + 1) 24 (zn)), (7, fun W => W.ownsRow gb 24 32 (.slice A1 lev c1) lev (ncells (authN sd ns idx lev))), (3, fun W => ab < W.heap.size ∧ W.rangeAt ab ao (bcells S))] (by kernel_rfl) (by kernel_rfl) hwb (Flow.nz_cons (by rintro b rfl; exact Nat.le_refl _) Flow.nz_nil) (Flow.facts_cons (hN.drew) (Flow.kept_blk id) (Flow.fz_cons (Flow.no_follow (by kernel_rfl)) Flow.fz_nil) (Flow.facts_cons (hO1) (Flow.kept_own (fun _ _ => id)) (Flow.fz_cons (fun _ => Flow.kept_own (fun b hb e => by have e2 : b = w.heap.size + 1 := e; have := (own_some hO1 hb).1; omega)) Flow.fz_nil) (Flow.facts_cons (⟨habw, hx⟩) (kept_range id) (Flow.fz_cons (Flow.no_follow (by kernel_rfl)) Flow.fz_nil) Flow.facts_nil))) ?_
              refine Flow.pass_old (X := .slice A1 lev c1) 10 (Flow.met_none rfl) (.inl rfl) (by kernel_rfl) (by kernel_rfl) rfl ?_
              refine Flow.pass_old (X := .slice (some ⟨ab, ao, none⟩) 1 c0) 11 (Flow.met_none rfl) (.inl rfl) (by kernel_rfl) (by kernel_rfl) rfl ?_
              refine Flow.pass_val (.pointer (some ⟨ab, ao, none⟩)) (Flow.met_none rfl) (fun a W hH => ?_) ?_
              · have e0 := Flow.see_new 88 1 hH.sees (by kernel_rfl) (by kernel_rfl) rfl rfl
                go_simp; first | done | rfl
              refine Flow.pass_val (.agg (bcells S).toArray) (Flow.met_none rfl) (fun a W hH => ?_) ?_
              · have e0 := Flow.see_new 89 2 hH.sees (by kernel_rfl) (by kernel_rfl) rfl rfl
                have fa2 : (fun W => ab < W.heap.size ∧ W.rangeAt ab ao (bcells S)) W := hH.fact _ (List.mem_of_getElem? (i := 2) rfl) rfl
                exact reg_loadRange 24 _ rfl e0 fa2.2 Tryd.underlying24 rfl (by rw [List.size_toArray, bcells_length, HSl.out]; exact infNode)
              refine Flow.pass_val (.slice A1 lev c1) (Flow.met_none rfl) (fun a W hH => ?_) ?_
              · have e0 := Flow.see_new 87 0 hH.sees (by kernel_rfl) (by kernel_rfl) rfl rfl
                go_simp; first | done | rfl
              refine Flow.pass_list (fun _ W => Blk W (w.heap.size + 1) 24 (bcells S).toArray) (Flow.kept_of (fun _ _ _ c h => h.chg c id) (Flow.kz_cons (Flow.no_follow (by kernel_rfl)) Flow.kz_nil)) (Flow.met_none rfl) (fun a W hH => ?_) ?_
              · have e0 := Flow.see_old 7 hH.sees (by kernel_rfl) (by kernel_rfl) rfl
                have e1 := Flow.see_new 90 3 hH.sees (by kernel_rfl) (by kernel_rfl) rfl rfl
                have fa0 : (fun W => Blk W (w.heap.size + 1) 24 (zn)) W := hH.fact _ (List.mem_of_getElem? (i := 0) rfl) rfl
                refine wpList_storeAll W rfl 24 _ _ rfl (w.heap.size + 1) 24 _ (bcells S).toArray fa0 (by simpa [Act.eval] using e0) (by simpa [Act.eval] using e1) (by rw [List.size_toArray, bcells_length, HSl.out]; kernel_rfl) (by rw [List.size_toArray, bcells_length, HSl.out]; kernel_rfl) (fun v hv => bcells_one _ v (by simpa using hv)) ?_
                intro W2 h2 hg _
                exact Flow.qq_nil ⟨_, rfl, Chg.grown hg (by rintro k h; cases h; rfl), h2⟩
              refine Flow.pass_val ((.bool true)) (Flow.met_none rfl) (fun a W hH => ?_) ?_
              · go_simp; first | done | rfl
              refine Flow.pass_end [none, none, none, none, none, none, some 6, none, some 8, none, none, none, none, none, none, none, none, none, none, none, none, none, none, none, none, none, none, none, none, none, none, none, none, none, none, none, none, none, none, none, none, none, none, none, none, none, none, none, none, none, none, none, none, none, none, none, none, none, none, none, none, none, none, none, none, none, none, none, none, none, none, none, none, none, none, none, none, none, none, none, none, none, none, none, none, none, none, some 87, some 88, some 89, some 90] (by kernel_rfl) ?_
              intro f gg w9 hB hfa hT hfg
              have h6 : f 6 = _ := (hfg 6 4 (by kernel_rfl)).trans (hT 4 _ (by kernel_rfl) rfl)
              have h8 : f 8 = _ := (hfg 8 6 (by kernel_rfl)).trans (hT 6 _ (by kernel_rfl) rfl)
              have F1 : (fun W => W.ownsRow gb 24 32 (.slice A1 lev c1) lev (ncells (authN sd ns idx lev))) w9 := hfa _ (List.mem_of_getElem? (i := 1) rfl) (Nat.le_refl _)
              have h5 := hT 5 _ (by kernel_rfl) rfl
              have hO9 := hfa _ (List.mem_of_getElem? (i := 1) rfl) (Nat.le_refl _)
              have B9 := hJB.drew.trans (hB.mono (by omega))
              clear hfa hT hfg hB
              simp only [Reg.sel, h6, h8]
              go_wp2
              refine bodyPost_ret (results_tct rfl _ _ (w.heap.size + 1) _ _ _ _ rfl h5 Tryd.underlying24 rfl (by rw [List.size_toArray, bcells_length, HSl.out]; kernel_rfl)) rfl ?_
              exact Hyes.out lev hhk.out Hpw.out Hii.out _ _ ⟨A1, c1, by rw [← HS.out]; rfl, hpc, Rd.of_own hO9, B9⟩
        · have hni : (n0 : Int) ≤ (idx : Int) := by omega
          obtain ⟨w5, hst, h5, hg5⟩ := zn_store hN
          have Hii := Lib.hid hii
          clear hp hp6 hii
          subst hpn
          go_wp2_with fail
          all_goals
            refine bodyPost_ret (results_tct rfl _ _ (w.heap.size + 1) _ _ _ _ rfl h5 Tryd.underlying24 rfl (by rw [hzs.out]; exact infNode)) rfl ?_
            exact Hno.out (.inr (by have := Hii.out; omega)) _ _ ⟨rfl, grown_below B0 hg5 B0.size (by omega)⟩
      · have hpk : Hid (powK n0 = false) := Lib.hid (by
          by_cases e : powK n0 = true
          · obtain ⟨j, hj, hnj⟩ := lg_of n0 (by omega) e
            rcases Nat.lt_trichotomy j h with h0 | h0 | h0
            · have := Hlt.out j h0; omega
            · subst h0; omega
            · have := Nat.pow_lt_pow_right (a := 2) (by omega) h0; omega
          · simpa using e)
        have hpi : ¬ (pw : Int) = (n0 : Int) := by omega
        obtain ⟨w5, hst, h5, hg5⟩ := zn_store hN
        clear hp hp6
        go_wp2_with fail
        all_goals
          refine bodyPost_ret (results_tct rfl _ _ (w.heap.size + 1) _ _ _ _ rfl h5 Tryd.underlying24 rfl (by rw [hzs.out]; exact infNode)) rfl ?_
          exact Hno.out (.inl hpk.out) _ _ ⟨rfl, grown_below B0 hg5 B0.size (by omega)⟩

/-- what both Paths answer: the nodes beside the way, the root, and whether there is one -/
def pathOk (n idx : Nat) : Bool := powK n && decide (idx < n)
def pathN (sd : Nd) (ns : List Nd) (idx : Nat) : List Nd := if pathOk ns.length idx = true then authN sd ns idx (Nat.log2 ns.length) else []
def pathR (sd : Nd) (ns : List Nd) (idx : Nat) : Nd := if pathOk ns.length idx = true then at_ (lvl sd ns (Nat.log2 ns.length)) 0 else znode
def PathV (w : World) (sd : Nd) (ns : List Nd) (idx : Nat) (e : Ending) (w' : World) : Prop :=
  ∃ A c, e = .returned (.tuple #[.slice A (pathN sd ns idx).length c, .agg (bcells (pathR sd ns idx)).toArray, .bool (pathOk ns.length idx)]) ∧ (pathN sd ns idx).length ≤ c ∧ Rd w' w'.heap.size 32 A (pathN sd ns idx).length (ncells (pathN sd ns idx)) ∧ Below w.heap.size w w'
theorem log2_pow : ∀ h, h < 6 → Nat.log2 (2 ^ h) = h := by decide +kernel
theorem pathV_yes {w : World} {sd : Nd} {ns : List Nd} {idx h : Nat} (hh : h < 6) (hn : ns.length = 2 ^ h) (hi : idx < ns.length) {e : Ending} {w' : World} (H : PathRet w sd ns idx h e w') : PathV w sd ns idx e w' := by
  have ho : pathOk ns.length idx = true := by
    unfold pathOk
    rw [Bool.and_eq_true]
    exact ⟨by rw [hn]; exact powK_of h hh, by simpa using hi⟩
  obtain ⟨A, c, rfl, h1, h2, h3⟩ := H
  unfold PathV pathN pathR
  rw [if_pos ho, if_pos ho, ho, hn, log2_pow h hh, authN_length]
  exact ⟨A, c, rfl, h1, h2, h3⟩
theorem pathV_no {w : World} {sd : Nd} {ns : List Nd} {idx : Nat} (hb : powK ns.length = false ∨ ns.length ≤ idx) {e : Ending} {w' : World} (H : PathNo w e w') : PathV w sd ns idx e w' := by
  have ho : pathOk ns.length idx = false := by
    unfold pathOk
    rcases hb with h | h
    · rw [h, Bool.false_and]
    · rw [decide_eq_false (by omega), Bool.and_false]
  obtain ⟨rfl, h3⟩ := H
  unfold PathV pathN pathR
  rw [if_neg (by simp [ho]), if_neg (by simp [ho]), ho]
  exact ⟨none, 0, rfl, Nat.le_refl _, Rd.nil _ _ _ _, h3⟩
theorem mpath_any (sd : Nd) (hsd : sd.length = 32) (idx : Nat) (hidx : idx < 4294967296) (A0 : Option Addr) (n0 c0 : Nat) (ns : List Nd) (hn0 : n0 = ns.length) (h32 : All32 ns) (hn40 : n0 ≤ 40) (hcc : n0 ≤ c0) (w : World) (hR : Rd w w.heap.size 32 A0 n0 (ncells ns)) (hT : Tabs w) :
    Calls Tryd.prog 17 #[.slice A0 n0 c0, .int .u32 (idx : Int), .agg (bcells sd).toArray] w (PathV w sd ns idx) := by
  by_cases hb : powK n0 = true ∧ idx < n0
  · obtain ⟨h, hh, hp⟩ := lg_of n0 (by omega) hb.1
    exact (mpath_yes sd hsd idx h hh A0 n0 c0 ns hn0 h32 hp hb.2 hcc w hR hT).mono fun e w' H => pathV_yes hh (by rw [← hn0]; exact hp) (by rw [← hn0]; exact hb.2) H
  · have hbad : powK n0 = false ∨ n0 ≤ idx := by
      by_cases e : powK n0 = true
      · exact .inr (by rcases Nat.lt_or_ge idx n0 with h | h; exact (hb ⟨e, h⟩).elim; exact h)
      · exact .inl (by simpa using e)
    exact (mpath_no A0 n0 c0 hn40 idx hidx hbad sd w).mono fun e w' H => pathV_no (by rw [← hn0]; exact hbad) H
theorem rpath_any (sd : Nd) (hsd : sd.length = 32) (idx : Nat) (hidx : idx < 4294967296) (A0 : Option Addr) (n0 c0 : Nat) (ns : List Nd) (hn0 : n0 = ns.length) (h32 : All32 ns) (hn40 : n0 ≤ 40) (w : World) (hR : Rd w w.heap.size 32 A0 n0 (ncells ns)) :
    Calls Tryd.prog 18 #[.slice A0 n0 c0, .int .u32 (idx : Int), .agg (bcells sd).toArray] w (PathV w sd ns idx) :=
  rpath_in sd hsd idx hidx A0 n0 c0 ns hn0 h32 hn40 w hR _ (fun h hh hp hi e w' H => pathV_yes hh (by rw [← hn0]; exact hp) (by rw [← hn0]; exact hi) H) (fun hb e w' H => pathV_no (by rw [← hn0]; exact hb) H)
end Go.Proofs.YtgfdjfglfipjfaaDoor
