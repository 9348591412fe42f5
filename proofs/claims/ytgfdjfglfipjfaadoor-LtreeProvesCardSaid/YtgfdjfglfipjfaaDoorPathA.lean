/-
  Walk: ltree.Path.
-/
import Derived.Test.YtgfdjfglfipjfaaDoorOnesA
import Derived.Test.YtgfdjfglfipjfaaDoorUpG
import Derived.Test.YtgfdjfglfipjfaaDoorBH
namespace Go.Proofs.YtgfdjfglfipjfaaDoor
open Go.RowKit Sha

theorem results_tct {P : Program} {fn : Func} {q p r : Tmp} {ty : TypeId} (h : fn.results = #[.tmp q, .cell p ty, .tmp r]) (tmps : Array Value) (w : World) (g : Nat) (t : TypeId) (cs : Array Value) (fr : Nat × Nat) (d : TypeDesc)
    (hp : tmps.getD p undef = .pointer (some ⟨g, 0, none⟩)) (hg : w.heap[g]? = some (.cells cs t fr))
    (hu : P.underlying ty = some d) (hd : (match d with | .struct _ | .array _ _ => true | _ => false) = true) (hi : (P.info? ty).map (·.size) = some cs.size) :
    (results fn tmps).run P w = .ok (.tuple #[tmps.getD q undef, .agg cs, tmps.getD r undef]) w := by
  have hp' : tmps[p]?.getD undef = .pointer (some ⟨g, 0, none⟩) := by simpa using hp
  simp [results, h, hp', asAddr, run_loadVar_row w g t ty cs fr d hg hu hd hi]

theorem range_grown {w w' : World} {row : Option Nat} {b o : Nat} {cs : List Value} (h : w.rangeAt b o cs) (hg : w.grownBy w' row) (hne : some b ≠ row) : w'.rangeAt b o cs := fun j v hv => hg.cell (h j v hv) hne
theorem rd_range {w : World} {B b o size n : Nat} {cs : List Value} (hl : cs.length = n * size) (hb : b < B) (h : w.rangeAt b o cs) : Rd w B size (some ⟨b, o, none⟩) n cs :=
  ⟨hl, fun k v hv => ⟨_, rfl, hb, by rw [Addr.add_mid]; exact h k v hv⟩⟩
theorem own_there {w : World} {g n c : Nat} {A : Option Addr} {t : TypeId} {cs : List Value} (h : w.ownsRow g t 32 (.slice A n c) n cs) (hn : 0 < n) : ∃ b o, A = some ⟨b, o, none⟩ ∧ g ≤ b ∧ b < w.heap.size ∧ w.rangeAt b o cs := by
  obtain ⟨b, o, rfl, hb, hr⟩ := (Rd.of_own h).range (by omega)
  exact ⟨b, o, rfl, (h.lt b rfl).1, hb, hr⟩
theorem kept_range {Z : Nat → Prop} {b o : Nat} {cs : List Value} (h : ¬ Z b) : Flow.Kept Z (fun W => b < W.heap.size ∧ W.rangeAt b o cs) := fun _ _ c ⟨h1, h2⟩ =>
  ⟨Nat.lt_of_lt_of_le h1 c.size, fun j v hv => (World.cell?_of_block (c.block b h1 h)).trans (h2 j v hv)⟩
theorem lg_of : ∀ n, n < 41 → powK n = true → ∃ h, h < 6 ∧ n = 2 ^ h := by decide +kernel
theorem powK_of : ∀ h, h < 6 → powK (2 ^ h) = true := by decide +kernel
theorem xor_u32 : ∀ q : Nat, q < 64 → IntKind.u32.wrap (bits .xor .u32 (q : Int) 1) = ((q ^^^ 1 : Nat) : Int) := by decide +kernel
theorem xor_u32' : ∀ q : Nat, q < 64 → bits .xor .u32 (q : Int) 1 = ((q ^^^ 1 : Nat) : Int) := by decide +kernel
theorem authN_succ (sd : Nd) (l : List Nd) (idx k : Nat) : authN sd l idx (k + 1) = authN sd l idx k ++ [at_ (lvl sd l k) ((idx / 2 ^ k) ^^^ 1)] := by
  unfold authN; rw [upto_succ]
theorem authN_length (sd : Nd) (l : List Nd) (idx k : Nat) : (authN sd l idx k).length = k := upto_length _ _

structure PtI (w : World) (sd : Nd) (wr : World) : Prop where
  S : Blk wr w.heap.size 24 (bcells sd).toArray
  N : Blk wr (w.heap.size + 1) 24 zn
  B : Below w.heap.size w wr
theorem PtI.below {w wr w' : World} {sd : Nd} {B : Nat} (h : PtI w sd wr) (hb : Below B wr w') (hB : w.heap.size + 1 < B) : PtI w sd w' :=
  ⟨h.S.below hb (by omega), h.N.below hb hB, h.B.trans (hb.mono (by omega))⟩

def PathRet (w : World) (sd : Nd) (ns : List Nd) (idx h : Nat) (e : Ending) (w' : World) : Prop :=
  ∃ A c, e = .returned (.tuple #[.slice A h c, .agg (bcells (at_ (lvl sd ns h) 0)).toArray, .bool true]) ∧ h ≤ c ∧ Rd w' w'.heap.size 32 A h (ncells (authN sd ns idx h)) ∧ Below w.heap.size w w'

set_option maxRecDepth 100000 in
set_option maxHeartbeats 4000000 in
theorem mpath_yes (sd : Nd) (hsd : sd.length = 32) (idx h : Nat) (hh : h < 6) (A0 : Option Addr) (n0 c0 : Nat) (ns : List Nd) (hn0 : n0 = ns.length) (h32 : All32 ns) (hn2 : n0 = 2 ^ h) (hidx : idx < n0) (hcc0 : n0 ≤ c0) (w : World) (hR : Rd w w.heap.size 32 A0 n0 (ncells ns)) (hT : Tabs w) :
    Calls Tryd.prog 17 #[.slice A0 n0 c0, .int .u32 (idx : Int), .agg (bcells sd).toArray] w (PathRet w sd ns idx h) := by
  have hz := zeroNode
  have hp5 : 2 ^ h ≤ 2 ^ 5 := Nat.pow_le_pow_right (by omega) (by omega)
  have h1 : 0 < 2 ^ h := Nat.two_pow_pos h
  have hn40 : n0 ≤ 40 := by omega
  have Hn40 := Lib.hid hn40
  have Hidx := Lib.hid hidx
  have hpk : powK n0 = true := by rw [hn2]; exact powK_of h hh
  have sdL := Lib.hid hsd
  have H32 := Lib.hid h32
  have Hn0 := Lib.hid hn0
  have Hn2 := Lib.hid hn2
  have hS := (Blk.new w 24 (bcells sd).toArray).alloc (.cells zn 24)
  have hN := blk_new1 w (.cells (bcells sd).toArray 24) 24 zn
  have B0 : Below w.heap.size w ((w.alloc (.cells (bcells sd).toArray 24)).alloc (.cells zn 24)) := ((Below.refl _ _).alloc (Nat.le_refl _) _).alloc (by simp) _
  have hs0 : Hid (((w.alloc (.cells (bcells sd).toArray 24)).alloc (.cells zn 24)).heap.size = w.heap.size + 2) := Lib.hid (by simp)
  have h10 : ¬ (1024 : Int) < (n0 : Int) := by omega
  have hii : (idx : Int) < (n0 : Int) := by omega
  have hwi : IntKind.u64.wrap (idx : Int) = (idx : Int) := by rw [IntKind.wrap_u64]; omega
  have hwn : IntKind.u64.wrap (n0 : Int) = (n0 : Int) := by rw [IntKind.wrap_u64]; omega
  have hpk1 := Lib.hid hpk
  clear hsd h32 hn0 hn2 hp5 h1 hpk
  go_enter Tryd.func17, Tryd.ntmps17
  go_wp2_with fail
  refine (ones_any n0 hn40 _).mono ?_
  rintro e w' ⟨⟨r, rfl, hr⟩, rfl⟩
  obtain rfl : r = 1 := hr.2 hpk1.out
  clear hr
  have hni : ¬ (n0 : Int) ≤ (idx : Int) := by omega
  go_wp2_with fail
  simp only [show decide ((1024 : Int) < (n0 : Int)) = false from decide_eq_false (by omega)]
  go_wp2_with fail
  try simp only [show decide ((n0 : Int) ≤ (idx : Int)) = false from decide_eq_false (by omega)]
  try go_wp2_with fail
  clear hni hii hwi hwn h10
  generalize (w.alloc (.cells (bcells sd).toArray 24)).alloc (.cells zn 24) = W0 at *
  have hJ0 : PtI w sd (W0.alloc (.cells #[.int .u32 0] 25)) := ⟨hS.alloc _, hN.alloc _, B0.alloc B0.size _⟩
  have hG0 : Blk (W0.alloc (.cells #[.int .u32 0] 25)) (w.heap.size + 2) 25 #[.int .u32 ((0 : Nat) : Int)] := by
    have := Blk.new W0 25 #[.int .u32 0]
    rw [hs0.out] at this; exact this
  obtain ⟨ab0, ao0, rfl, hab0, hrg0⟩ := hR.range (by omega)
  have hj : ∀ k i a b, (joinT sd k i a b).length = 32 := fun _ _ _ _ => keyed_length _ _
  have hrg1 := hrg0.later hJ0.B hab0
  have hab1 : ab0 < (W0.alloc (.cells #[.int .u32 0] 25)).heap.size := Nat.lt_of_lt_of_le hab0 hJ0.B.size
  obtain ⟨g0, hg0e⟩ : ∃ g, g = w.heap.size + 2 := ⟨_, rfl⟩
  clear hS hN B0 hs0 hrg0 hab0 hR
  generalize W0.alloc (.cells #[.int .u32 0] 25) = W1 at *
  simp only [show decide (n0 ≤ idx) = false from decide_eq_false (by have := Hidx.out; omega), Bool.or_false]
  go_loopw [0, 1, 10, 11] (fun v0 v1 v10 v11 wr => ∃ (k q ab ao n c : Nat) (cur : List Nd) (gh : Nat) (A1 : Option Addr) (c1 : Nat), v0 = .slice (some ⟨ab, ao, none⟩) n c ∧ v1 = .int .u32 (q : Int) ∧ v10 = .slice A1 k c1 ∧ v11 = .pointer (some ⟨gh, 0, none⟩) ∧
    q = idx / 2 ^ k ∧ k ≤ h ∧ cur = lvl sd ns k ∧ n = cur.length ∧ n = 2 ^ (h - k) ∧ n ≤ c ∧ ab < wr.heap.size ∧ wr.rangeAt ab ao (ncells cur) ∧ (Value.slice A1 k c1).ownBlock ≠ some ab ∧ wr.ownsRow g0 24 32 (.slice A1 k c1) k (ncells (authN sd ns idx k)) ∧
    w.heap.size + 1 < gh ∧ Blk wr gh 25 #[.int .u32 (k : Int)] ∧ PtI w sd wr) (fun v _ _ _ _ => sliceLen v)
  case atStart => exact ⟨0, idx, ab0, ao0, n0, c0, ns, w.heap.size + 2, none, 0, rfl, rfl, rfl, rfl, by simp, Nat.zero_le _, rfl, Hn0.out, Hn2.out, hcc0, hab1, hrg1, by simp [Value.ownBlock], World.ownsRow_nil _ _ _ _, by omega, hG0, hJ0⟩
  case round =>
    clear hJ0 hG0 hrg1 hab1
    obtain ⟨k, q, ab, ao, n, c, cur, gh, A1, c1, rfl, rfl, rfl, rfl, hq, hk, hcur, hn, hn2, hnc, hab, hrg, hne, hO, hgh, hG, hJ⟩ := hrel
    have hghl := hG.lt
    have Hcur := Lib.hid hcur
    have Hn := Lib.hid hn
    have Hall : Hid (All32 cur) := Lib.hid (by rw [hcur]; exact lvl_all sd ns H32.out k)
    have hk2 : 2 ^ h = 2 ^ (h - k) * 2 ^ k := by rw [← Nat.pow_add, Nat.sub_add_cancel hk]
    have hqn : q < n := by
      rw [hq, hn2, Nat.div_lt_iff_lt_mul (Nat.two_pow_pos k), ← hk2, ← Hn2.out]; exact hidx
    have hnp : 2 ^ (h - k) ≤ 2 ^ 5 := Nat.pow_le_pow_right (by omega) (by omega)
    have hn32 : n ≤ 32 := by omega
    have hg0w : g0 ≤ wr.heap.size := by have := hJ.B.size; have := hJ.N.lt; omega
    clear hcur hn hk2 hnp
    by_cases hgt : 1 < n
    · have hkh : k < h := by
        rcases Nat.lt_or_ge k h with h0 | h0
        · exact h0
        · rw [show h - k = 0 by omega] at hn2; omega
      have hn2' : n = 2 * 2 ^ (h - (k + 1)) := by rw [hn2, show h - k = (h - (k + 1)) + 1 by omega, Nat.pow_succ]; omega
      obtain ⟨qx, hqx⟩ : ∃ qx, qx = q ^^^ 1 := ⟨_, rfl⟩
      have hqx2 : qx < n := by
        rw [hqx, xor1]; split <;> omega
      have hx1 : IntKind.u32.wrap (bits .xor .u32 (q : Int) 1) = (qx : Int) := by rw [hqx]; exact xor_u32 q (by omega)
      have hx2 : bits .xor .u32 (q : Int) 1 = (qx : Int) := by rw [hqx]; exact xor_u32' q (by omega)
      have hqN : qx < cur.length := by rw [← Hn.out]; exact hqx2
      have hqi : (qx : Int) < (n : Int) := by omega
      have hx := range_node hrg Hall.out qx hqN
      have hxl := Hall.out _ (List.getElem_mem hqN)
      have hau : Hid (ncells (authN sd ns idx k) ++ bcells cur[qx] = ncells (authN sd ns idx (k + 1))) := Lib.hid (by
        rw [authN_succ, ncells_snoc, ← Hcur.out, ← hq, ← hqx, at_get _ _ hqN])
      obtain ⟨x, ex⟩ : ∃ x, x = cur[qx] := ⟨_, rfl⟩
      rw [← ex] at hx hxl hau
      have xL := Lib.hid hxl
      have HRx : Hid (Rd (wr.alloc (.cells (bcells x).toArray 24)) (wr.alloc (.cells (bcells x).toArray 24)).heap.size 32 (some ⟨wr.heap.size, 0, none⟩) 1 (bcells x)) := Lib.hid (by
        have := (Blk.new wr 24 (bcells x).toArray).rd (size := 32) (n := 1) (by simp [bcells_length, hxl])
        simpa using this)
      clear ex hxl hqN
      have Hqx := Lib.hid hqx
      have Hq := Lib.hid hq
      have Hn2k := Lib.hid hn2
      have Hn2p := Lib.hid hn2'
      have Hgt := Lib.hid hgt
      clear hqx hq hn2 hn2' hqn
      go_wp2_with (first
        | ((with_reducible refine at_load 24 ?_); refine wpList_runV rfl (reg_loadRange 24 39 rfl rfl hx Tryd.underlying24 rfl (by rw [List.size_toArray, bcells_length, xL.out]; exact infNode)) ?_)
        | ((with_reducible refine at_buildSlice 22 ?_); refine wpList_runV rfl (Flow.reg_buildSlice #[(0, .agg (bcells x).toArray)] rfl (by first | rfl | simp [Act.eval, Act.put]) (run_nodeS wr x xL.out)) ?_)
        | ((with_reducible refine at_append ?_); refine wpList_app _ elNz rfl _ _ rfl g0 A1 k c1 (ncells (authN sd ns idx k)) rfl (hO.alloc _) _ (some ⟨wr.heap.size, 0, none⟩) 1 1 (bcells x) rfl HRx.out (bcells_one x) (by omega) (by omega) (by simp; omega) ?_; intro A9 c9 w9 hO9 hg9 hB9 _))
      have hrg9 := range_grown (hrg.later (B := wr.heap.size) ((Below.refl _ _).alloc (Nat.le_refl _) _) hab) hg9 (fun e => hne e.symm)
      have hab9 : ab < w9.heap.size := by have := hg9.size; simp at this; omega
      have hG9 : Blk w9 gh 25 #[.int .u32 (k : Int)] := (hg9.block gh (by simp; omega) (fun e => own_ne hO hG (by decide) e.symm rfl)).trans (hG.alloc _)
      have hJ9 : PtI w sd w9 := (hJ.below ((Below.refl _ _).alloc (Nat.le_refl _) _) hJ.N.lt).below hB9 (by omega)
      have hT9 := hT.below hJ9.B
      have hcall : Hid (∀ (x : Pr) W, Below w9.heap.size w9 W → Calls Tryd.prog 37 (prEncs x ++ #[.pointer (some ⟨w.heap.size, 0, none⟩), .pointer (some ⟨gh, 0, none⟩)]) W fun e w' => e = .returned (.agg (bcells (joinT sd k x.1.1 x.1.2.1 x.1.2.2)).toArray) ∧ Below W.heap.size W w') := Lib.hid fun x W hB =>
        mpath1_any w.heap.size gh sd sdL.out k x W (hJ9.S.below hB hJ9.S.lt) (hG9.below hB hG9.lt) (hT9.below hB)
      have hR9 : Rd w9 w9.heap.size 32 (some ⟨ab, ao, none⟩) n (ncells cur) := rd_range (by rw [ncells_length _ Hall.out, Hn.out]) hab9 hrg9
      refine (up_own 37 Tryd.f37 _ Tryd.func37 rfl (by kernel_rfl) _ (joinT sd k) (hj k) (some ⟨ab, ao, none⟩) n c cur Hall.out Hn.out (by omega) (by omega) hnc w9 hR9 hcall.out).mono ?_
      rintro e w1 ⟨A', c', rfl, hO', hB'⟩
      have hlen : Hid ((upL (joinT sd k) cur).length = 2 ^ (h - (k + 1))) := Lib.hid (by rw [upL_length, ← Hn.out]; have := Hn2p.out; omega)
      have hupl : Hid (upL (joinT sd k) cur = lvl sd ns (k + 1)) := Lib.hid (by rw [Hcur.out]; rfl)
      generalize upL (joinT sd k) cur = cur2 at *
      have hpos : 0 < cur2.length := by rw [hlen.out]; exact Nat.two_pow_pos _
      have hc' := Flow.own_le hO'
      obtain ⟨ab', ao', rfl, hba, hab', hrg'⟩ := own_there hO' hpos
      rw [hau.out] at hO9
      have hne' : (Value.slice A9 (k + 1) c9).ownBlock ≠ some ab' := fun e => by have := (own_some hO9 e).2; omega
      have hO1 : w1.ownsRow g0 24 32 (.slice A9 (k + 1) c9) (k + 1) (ncells (authN sd ns idx (k + 1))) := own_chg hO9 (Chg.of_ext (Z := fun _ => False) hB') (fun _ _ => id)
      have hG1 := hG9.below hB' hG9.lt
      have hJ1 := hJ9.below hB' hJ9.N.lt
      clear hcall hG hJ hB' hR9 hT9 hG9 hJ9 hrg9 hab9 hO9 hO' hg9 hrg hO hne hx HRx
      have hg1 : w1.cell? ⟨gh, 0, none⟩ = some (.int .u32 (k : Int)) := (hG1.cell 0).trans rfl
      have hwk : IntKind.u32.wrap ((k : Int) + 1) = ((k + 1 : Nat) : Int) := IntWalk.u32_in _ (by omega)
      have hG2 : Blk (w1.alloc (.cells #[.int .u32 ((k + 1 : Nat) : Int)] 25)) w1.heap.size 25 #[.int .u32 ((k + 1 : Nat) : Int)] := Blk.new _ _ _
      have B2 : Below w1.heap.size w1 (w1.alloc (.cells #[.int .u32 ((k + 1 : Nat) : Int)] 25)) := (Below.refl _ _).alloc (Nat.le_refl _) _
      have hJ2 : PtI w sd (w1.alloc (.cells #[.int .u32 ((k + 1 : Nat) : Int)] 25)) := hJ1.below B2 hJ1.N.lt
      have hO2 := hO1.alloc (.cells #[.int .u32 ((k + 1 : Nat) : Int)] 25)
      have hrg2 := hrg'.later B2 hab'
      have hab2 := Nat.lt_of_lt_of_le hab' B2.size
      have hgl : w.heap.size + 1 < w1.heap.size := hJ1.N.lt
      clear hJ1 hO1 hrg' hB9 B2
      go_wp2_with fail
      go_roundw
      case rel => exact ⟨k + 1, q / 2, ab', ao', cur2.length, c', cur2, w1.heap.size, A9, c9, rfl, rfl, rfl, rfl, by rw [Hq.out, Nat.pow_succ, Nat.div_div_eq_div_mul], hkh, hupl.out, rfl, hlen.out, hc', hab2, hrg2, hne', hO2, hgl, hG2, hJ2⟩
      case measure =>
        have := hlen.out
        have := Hn2p.out
        simp [sliceLen]; omega
    · have hk' : k = h := by
        rcases Nat.lt_or_ge k h with h0 | h0
        · have := Nat.pow_le_pow_right (n := 2) (by omega) (show 1 ≤ h - k by omega)
          omega
        · omega
      have hn1 : n = 1 := by omega
      subst hk' hn1
      have hx := range_node hrg Hall.out 0 (by have := Hn.out; omega)
      have hxl := Hall.out _ (List.getElem_mem (show 0 < cur.length by have := Hn.out; omega))
      have hxe : cur[0]'(by have := Hn.out; omega) = at_ (lvl sd ns k) 0 := by
        rw [← Hcur.out, at_get]
      obtain ⟨S, hSe⟩ : ∃ S, S = at_ (lvl sd ns k) 0 := ⟨_, rfl⟩
      rw [hxe, ← hSe] at hx hxl
      simp only [Nat.zero_mul, Nat.add_zero] at hx
      have hx : wr.rangeAt ab ao (bcells S) := hx
      have HSl := Lib.hid hxl
      have HS := Lib.hid hSe
      have hN := hJ.N
      have hNl := hN.lt
      have hJB := hJ.B
      have hO1 := hO.drew
      have hwb : w.heap.size + 1 ≤ wr.drew.heap.size := Nat.le_of_lt hNl
      have habw : ab < wr.drew.heap.size := hab
      have hpc := Flow.own_le hO
      have hb : (1 : Nat) = 1 := rfl
      clear hSe hxe hq hk hn2 hqn hn32 hrg hne hG hgh hgt hJ hxl
      go_wp2_with fail
      refine Flow.wp_region_flow (w.heap.size + 1) [(5, fun b => b = w.heap.size + 1)] [(5, fun W => Blk W (w.heap.size + 1) 24 (zn)), (7, fun W => W.ownsRow g0 24 32 (.slice A1 k c1) k (ncells (authN sd ns idx k))), (3, fun W => ab < W.heap.size ∧ W.rangeAt ab ao (bcells S))] (by kernel_rfl) (by kernel_rfl) hwb (Flow.nz_cons (by rintro b rfl; exact Nat.le_refl _) Flow.nz_nil) (Flow.facts_cons (hN.drew) (Flow.kept_blk id) (Flow.fz_cons (Flow.no_follow (by kernel_rfl)) Flow.fz_nil) (Flow.facts_cons (hO1) (Flow.kept_own (fun _ _ => id)) (Flow.fz_cons (fun _ => Flow.kept_own (fun b hb e => by have e2 : b = w.heap.size + 1 := e; have := (own_some hO1 hb).1; omega)) Flow.fz_nil) (Flow.facts_cons (⟨habw, hx⟩) (kept_range id) (Flow.fz_cons (Flow.no_follow (by kernel_rfl)) Flow.fz_nil) Flow.facts_nil))) ?_
      refine Flow.pass_old (X := .slice A1 k c1) 10 (Flow.met_none rfl) (.inl rfl) (by kernel_rfl) (by kernel_rfl) rfl ?_
      refine Flow.pass_old (X := .slice (some ⟨ab, ao, none⟩) 1 c) 0 (Flow.met_none rfl) (.inl rfl) (by kernel_rfl) (by kernel_rfl) rfl ?_
      refine Flow.pass_val (.pointer (some ⟨ab, ao, none⟩)) (Flow.met_none rfl) (fun a W hH => ?_) ?_
      · have e0 := Flow.see_new 50 1 hH.sees (by kernel_rfl) (by kernel_rfl) rfl rfl
        go_simp; first | done | rfl
      refine Flow.pass_val (.agg (bcells S).toArray) (Flow.met_none rfl) (fun a W hH => ?_) ?_
      · have e0 := Flow.see_new 51 2 hH.sees (by kernel_rfl) (by kernel_rfl) rfl rfl
        have fa2 : (fun W => ab < W.heap.size ∧ W.rangeAt ab ao (bcells S)) W := hH.fact _ (List.mem_of_getElem? (i := 2) rfl) rfl
        exact reg_loadRange 24 _ rfl e0 fa2.2 Tryd.underlying24 rfl (by rw [List.size_toArray, bcells_length, HSl.out]; exact infNode)
      refine Flow.pass_val (.slice A1 k c1) (Flow.met_none rfl) (fun a W hH => ?_) ?_
      · have e0 := Flow.see_new 49 0 hH.sees (by kernel_rfl) (by kernel_rfl) rfl rfl
        go_simp; first | done | rfl
      refine Flow.pass_list (fun _ W => Blk W (w.heap.size + 1) 24 (bcells S).toArray) (Flow.kept_of (fun _ _ _ c h => h.chg c id) (Flow.kz_cons (Flow.no_follow (by kernel_rfl)) Flow.kz_nil)) (Flow.met_none rfl) (fun a W hH => ?_) ?_
      · have e0 := Flow.see_old 7 hH.sees (by kernel_rfl) (by kernel_rfl) rfl
        have e1 := Flow.see_new 52 3 hH.sees (by kernel_rfl) (by kernel_rfl) rfl rfl
        have fa0 : (fun W => Blk W (w.heap.size + 1) 24 (zn)) W := hH.fact _ (List.mem_of_getElem? (i := 0) rfl) rfl
        refine wpList_storeAll W rfl 24 _ _ rfl (w.heap.size + 1) 24 _ (bcells S).toArray fa0 (by simpa [Act.eval] using e0) (by simpa [Act.eval] using e1) (by rw [List.size_toArray, bcells_length, HSl.out]; kernel_rfl) (by rw [List.size_toArray, bcells_length, HSl.out]; kernel_rfl) (fun v hv => bcells_one _ v (by simpa using hv)) ?_
        intro W2 h2 hg _
        exact Flow.qq_nil ⟨_, rfl, Chg.grown hg (by rintro k h; cases h; rfl), h2⟩
      refine Flow.pass_val ((.bool true)) (Flow.met_none rfl) (fun a W hH => ?_) ?_
      · go_simp; first | done | rfl
      refine Flow.pass_end [none, none, none, none, none, none, some 6, none, some 8, none, none, none, none, none, none, none, none, none, none, none, none, none, none, none, none, none, none, none, none, none, none, none, none, none, none, none, none, none, none, none, none, none, none, none, none, none, none, none, none, some 49, some 50, some 51, some 52] (by kernel_rfl) ?_
      intro f gg w9 hB hfa hT hfg
      have h6 : f 6 = _ := (hfg 6 4 (by kernel_rfl)).trans (hT 4 _ (by kernel_rfl) rfl)
      have h8 : f 8 = _ := (hfg 8 6 (by kernel_rfl)).trans (hT 6 _ (by kernel_rfl) rfl)
      have F1 : (fun W => W.ownsRow g0 24 32 (.slice A1 k c1) k (ncells (authN sd ns idx k))) w9 := hfa _ (List.mem_of_getElem? (i := 1) rfl) (Nat.le_refl _)
      have h5 := hT 5 _ (by kernel_rfl) rfl
      have hO9 := hfa _ (List.mem_of_getElem? (i := 1) rfl) (Nat.le_refl _)
      have B9 := hJB.drew.trans (hB.mono (by omega))
      clear hfa hT hfg hB hb
      simp only [Reg.sel, h6, h8]
      go_wp2
      refine bodyPost_ret (results_tct rfl _ _ (w.heap.size + 1) _ _ _ _ rfl h5 Tryd.underlying24 rfl (by rw [List.size_toArray, bcells_length, HSl.out]; kernel_rfl)) rfl ?_
      exact ⟨A1, c1, by rw [← HS.out]; rfl, hpc, Rd.of_own hO9, B9⟩
end Go.Proofs.YtgfdjfglfipjfaaDoor
