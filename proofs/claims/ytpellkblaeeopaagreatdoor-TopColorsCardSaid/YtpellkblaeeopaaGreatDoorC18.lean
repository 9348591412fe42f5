/-
  Parts: XmssE GeB Dec.
-/
import Derived.Test.YtpellkblaeeopaaGreatDoorC17
import Derived.Test.YtpellkblaeeopaaGreatDoorC03
import Derived.Test.YtpellkblaeeopaaGreatDoorC09
/-
  Walks: xmss.KeyOf of any bytes.
-/
namespace Go.Proofs.YtpellkblaeeopaaGreatDoor
open Go.RowKit

theorem reg_loadRd {P : Program} {o : Oper} {a : Act} {w : World} (ty : TypeId) (t : Tmp) (ho : o.op = .load ty (.tmp t)) {A : Option Addr} {B n : Nat} {l : List UInt8} (he : a.tmps[t]?.getD undef = .pointer A)
    (h : Rd w B 1 A n (bcells l)) {d : TypeDesc} (hu : P.underlying ty = some d) (hd : d.isRow = true) (hi : (P.info? ty).map (·.size) = some (bcells l).toArray.size) (hn : 0 < (bcells l).length) :
    (execOp a.eval o).run P w = .ok (.value (.agg (bcells l).toArray)) w := by
  obtain ⟨b, off, rfl, _, hr⟩ := h.range (by rw [← h.len]; exact hn)
  have := run_loadAt_mid (P := P) w b off ty (bcells l) d hr hu hd (by simpa using hi)
  simp [execOp, ho, Act.eval, he, this]

def keyCells (o : Nat) (r s : List UInt8) : List Value := .int .u32 o :: (bcells r ++ bcells s)
theorem keyCells_one (o : Nat) (r s : List UInt8) : ∀ v ∈ (keyCells o r s).toArray.toList, v.oneCell' = true := by
  intro v hv
  simp only [keyCells, List.mem_cons, List.mem_append] at hv
  rcases hv with rfl | h | h
  · rfl
  · exact bcells_one _ v h
  · exact bcells_one _ v h
theorem run_key (o : Nat) (r s : List UInt8) (w : World) (hr : r.length = 32) (hs : s.length = 32) :
    (Instr.build 231 #[(0, .int .u32 o), (1, .agg (bcells r).toArray), (2, .agg (bcells s).toArray)]).run Tryz.prog w = .ok (.agg (keyCells o r s).toArray) w := by
  have hl : (flat [.int .u32 o, .agg (bcells r).toArray, .agg (bcells s).toArray]) = keyCells o r s := by simp [flat, keyCells, Value.cells]
  have hn : (keyCells o r s).length = 65 := by simp [keyCells, bcells_length, hr, hs]
  have := run_build_rows (P := Tryz.prog) w (t := 231) (z := Tryz.zeroCells231) #[(0, .int .u32 o), (1, .agg (bcells r).toArray), (2, .agg (bcells s).toArray)] [.int .u32 o, .agg (bcells r).toArray, .agg (bcells s).toArray] [(0, 1), (1, 32), (33, 32)]
    Tryz.underlying231 (by kernel_rfl) (by kernel_rfl) rfl (by simp [Rows1, Value.cells, bcells_length, hr, hs]) (by rw [hl, hn]; exact Nat.le_of_eq (by kernel_rfl))
  rw [hl, hn] at this
  rw [this]
  have e : (Tryz.zeroCells231).toList.drop 65 = [] := by kernel_rfl
  rw [e, List.append_nil]

set_option maxRecDepth 100000 in
set_option maxHeartbeats 2000000 in
theorem mKeyOf_yes (A : Option Addr) (c : Nat) (l : List UInt8) (w : World) (h : Rd w w.heap.size 1 A 68 (bcells l)) (hc : 68 ≤ c) (hk : isKind (rdNum l 0 4 false) = true)
    (r s : List UInt8) (hr : r = (l.drop 4).take 32) (hs : s = l.drop 36) :
    Calls Tryz.prog 117 #[.slice A 68 c] w fun e w' => e = .returned (.tuple #[.agg (keyCells (rdNum l 0 4 false) r s).toArray, .int .i64 0]) ∧ Below w.heap.size w w' := by
  have hlen : 68 = l.length := by have := h.len; rw [bcells_length] at this; omega
  have rL : Hid (r.length = 32) := Lib.hid (by rw [hr]; simp; omega)
  have sL : Hid (s.length = 32) := Lib.hid (by rw [hs]; simp; omega)
  have HLEN := Lib.hid hlen
  have HR := Lib.hid hr
  have HS := Lib.hid hs
  clear hlen hr hs
  go_enter Tryz.func117, Tryz.ntmps117
  go_wp2_with fail
  have B1 : Below w.heap.size w (w.alloc (.cells Tryz.zeroCells231 231)) := (Below.refl _ w).alloc (Nat.le_refl _) _
  have h1 : Rd (w.alloc (.cells Tryz.zeroCells231 231)) (w.alloc (.cells Tryz.zeroCells231 231)).heap.size 1 A 68 (bcells l) := (h.alloc (Nat.le_refl _) _).more (by simp)
  have hb := Blk.new w 231 Tryz.zeroCells231
  have hsz : Hid ((w.alloc (.cells Tryz.zeroCells231 231)).heap.size = w.heap.size + 1) := Lib.hid (by simp)
  generalize w.alloc (.cells Tryz.zeroCells231 231) = W at *
  refine (be32_any A 68 c 0 l W h1 (by omega)).mono ?_
  rintro e w' ⟨rfl, rfl⟩
  go_wp2_with fail
  refine (mHeight_any (rdNum l 0 4 false) W).mono ?_
  rintro e w' ⟨rfl, rfl⟩
  rw [hk]
  have hcut : CutTo A (if c = 4 then A else A.map fun x => ⟨x.block, x.off + 4, none⟩) 68 4 := by
    split
    · rename_i e; exact cutTo_cap hc e
    · rename_i e; exact cutTo_on (by omega) hc e
  by_cases h4 : c = 4
  · omega
  rw [if_neg h4] at hcut
  have h2 := hcut _ _ _ h
  clear hcut
  go_wp2_with fail
  generalize Option.map (fun x : Addr => (⟨x.block, x.off + 4, none⟩ : Addr)) A = A0 at *
  refine (cutter_any A0 64 (c - 4) W).mono ?_
  rintro e W1 ⟨rfl, hx, hE1, hs1⟩
  go_wp2_with fail
  refine (cut_any W.heap.size A0 64 (c - 4) W1 hx (by omega) (by omega)).mono ?_
  rintro e W2 ⟨A1, hC1, rfl, hx2, hg2, hs2⟩
  go_wp2_with fail
  refine (cut_any W.heap.size A1 32 (c - 4 - 32) W2 hx2 (by omega) (by omega)).mono ?_
  rintro e W3 ⟨A2, hC2, rfl, hx3, hg3, hs3⟩
  go_wp2_with fail
  have hz := ((hb.ext hE1).grown hg2 (by simp; have := hsz.out; omega)).grown hg3 (by simp; have := hsz.out; omega)
  have B3 := grown_below (grown_below (B1.trans (hE1.below B1.size)) hg2 (by have := B1.size; omega) B1.size) hg3 (by have := B1.size; omega) B1.size
  have hr1 : Rd W3.drew w.heap.size 1 A0 32 (bcells r) := by
    have := (h2.front (k := 32) (by omega)).below B3
    rw [HR.out]
    simp only [bcells, List.map_take, List.map_drop, Nat.mul_one] at this ⊢
    exact this.drew
  have hr2 : Rd W3.drew w.heap.size 1 A1 32 (bcells s) := by
    have := (hC1 _ _ _ h2).below B3
    rw [HS.out]
    simp only [bcells, List.map_drop, List.drop_drop] at this ⊢
    exact this.drew
  clear hg2 hg3 hx hx2 hx3 hE1 hb h2 hC1 hC2 h1
  have B3' := B3.drew
  have hk65 : (keyCells (rdNum l 0 4 false) r s).toArray.size = 65 := by simp [keyCells, bcells_length, rL.out, sL.out]
  refine Flow.wp_region_flow (w.heap.size) [(8, fun b => b = w.heap.size)] [(8, fun W => Blk W w.heap.size 231 Tryz.zeroCells231)] (by kernel_rfl) (by kernel_rfl) B3'.size (Flow.nz_cons (by rintro b rfl; exact Nat.le_refl _) Flow.nz_nil) (Flow.facts_cons (hz.drew) (Flow.kept_blk id) (Flow.fz_cons (Flow.no_follow (by kernel_rfl)) Flow.fz_nil) Flow.facts_nil) ?_
  refine Flow.pass_old 4 (Flow.met_none rfl) (.inl rfl) (by kernel_rfl) (by kernel_rfl) rfl ?_
  refine Flow.pass_old 9 (Flow.met_none rfl) (.inl rfl) (by kernel_rfl) (by kernel_rfl) rfl ?_
  refine Flow.pass_val (.pointer A0) (Flow.met_none rfl) (fun a W hH => ?_) ?_
  · have e0 := Flow.see_new 37 1 hH.sees (by kernel_rfl) (by kernel_rfl) rfl rfl
    exact Flow.reg_array _ rfl e0 Tryz.underlying229 (Nat.le_refl _)
  refine Flow.pass_val (.agg (bcells (r)).toArray) (Flow.met_none rfl) (fun a W hH => ?_) ?_
  · have e0 := Flow.see_new 38 2 hH.sees (by kernel_rfl) (by kernel_rfl) rfl rfl
    exact reg_loadRd 229 _ rfl e0 (hr1.below hH.below) Tryz.underlying229 rfl (by rw [List.size_toArray, bcells_length, rL.out]; exact infNode) (by rw [bcells_length, rL.out]; omega)
  refine Flow.pass_old 10 (Flow.met_none rfl) (.inl rfl) (by kernel_rfl) (by kernel_rfl) rfl ?_
  refine Flow.pass_val (.pointer A1) (Flow.met_none rfl) (fun a W hH => ?_) ?_
  · have e0 := Flow.see_new 40 4 hH.sees (by kernel_rfl) (by kernel_rfl) rfl rfl
    exact Flow.reg_array _ rfl e0 Tryz.underlying229 (Nat.le_refl _)
  refine Flow.pass_val (.agg (bcells (s)).toArray) (Flow.met_none rfl) (fun a W hH => ?_) ?_
  · have e0 := Flow.see_new 41 5 hH.sees (by kernel_rfl) (by kernel_rfl) rfl rfl
    exact reg_loadRd 229 _ rfl e0 (hr2.below hH.below) Tryz.underlying229 rfl (by rw [List.size_toArray, bcells_length, sL.out]; exact infNode) (by rw [bcells_length, sL.out]; omega)
  refine Flow.pass_val (.agg (keyCells (rdNum l 0 4 false) r s).toArray) (Flow.met_none rfl) (fun a W hH => ?_) ?_
  · have e0 := Flow.see_new 36 0 hH.sees (by kernel_rfl) (by kernel_rfl) rfl rfl
    have e1 := Flow.see_new 39 3 hH.sees (by kernel_rfl) (by kernel_rfl) rfl rfl
    have e2 := Flow.see_new 42 6 hH.sees (by kernel_rfl) (by kernel_rfl) rfl rfl
    exact Flow.reg_build _ rfl (by simp [Act.eval, e0, e1, e2]) (run_key (rdNum l 0 4 false) r s _ rL.out sL.out)
  refine Flow.pass_list (fun _ W => Blk W w.heap.size 231 (keyCells (rdNum l 0 4 false) r s).toArray) (Flow.kept_of (fun _ _ _ c h => h.chg c id) (Flow.kz_cons (Flow.no_follow (by kernel_rfl)) Flow.kz_nil)) (Flow.met_none rfl) (fun a W hH => ?_) ?_
  · have e0 := Flow.see_old 2 hH.sees (by kernel_rfl) (by kernel_rfl) rfl
    have e1 := Flow.see_new 43 7 hH.sees (by kernel_rfl) (by kernel_rfl) rfl rfl
    have fa0 : (fun W => Blk W w.heap.size 231 Tryz.zeroCells231) W := hH.fact _ (List.mem_of_getElem? (i := 0) rfl) rfl
    refine wpList_storeAll W rfl 231 _ _ rfl w.heap.size 231 _ (keyCells (rdNum l 0 4 false) r s).toArray fa0 (by simpa [Act.eval] using e0) (by simpa [Act.eval] using e1) (by rw [hk65]; kernel_rfl) (by rw [hk65]; kernel_rfl) (keyCells_one _ r s) ?_
    intro W2 h2 hg _
    exact Flow.qq_nil ⟨_, rfl, Chg.grown hg (by rintro k h; cases h; rfl), h2⟩
  apply Flow.pass_val (hm := (Flow.met_none rfl))
  · intro a W hH
    go_simp; first | done | rfl
  refine Flow.pass_end [none, none, none, some 3, none, none, none, none, none, none, none, none, none, none, none, none, none, none, none, none, none, none, none, none, none, none, none, none, none, none, none, none, none, none, none, none, some 36, some 37, some 38, some 39, some 40, some 41, some 42, some 43] (by kernel_rfl) ?_
  intro f g w9 hB hfa hT hfg
  have hb9 := hT 8 _ (by kernel_rfl) rfl
  have h3 : f 3 = .int .i64 0 := (hfg 3 9 (by kernel_rfl)).trans (hT 9 _ (by kernel_rfl) rfl)
  simp only [Reg.sel, h3]
  clear hT hfg hfa
  go_wp2
  refine bodyPost_ret (results_cell_tmp rfl _ _ w.heap.size _ _ _ _ rfl hb9 Tryz.underlying231 rfl (by rw [hk65]; kernel_rfl)) rfl ⟨rfl, ?_⟩
  exact B3'.trans hB

end Go.Proofs.YtpellkblaeeopaaGreatDoor
/-
  Walks for awake35: cfg.must, truth, small, Name.
-/
namespace Go.Proofs.YtpellkblaeeopaaGreatDoor
open Go.RowKit

set_option maxRecDepth 100000 in
theorem must_any (z e : Int) (W : World) : Calls Tryz.prog 73 #[.bool true, .int .i64 z, .int .i64 e] W fun ed w' => ed = .returned (.tuple #[]) ∧ w' = W := by
  go_enter Tryz.func73, Tryz.ntmps73
  go_wp2
  exact bodyPost_end (results_none rfl _ _ _) rfl ⟨rfl, rfl⟩
set_option maxRecDepth 100000 in
theorem truth_any (b : Bool) (W : World) : Calls Tryz.prog 100 #[.bool b] W fun ed w' => ed = .returned (.int .u32 (if b then 1 else 0)) ∧ w' = W := by
  cases b
  all_goals
    go_enter Tryz.func100, Tryz.ntmps100
    go_wp2
    go_ret
    exact ⟨rfl, rfl⟩
set_option maxRecDepth 100000 in
theorem small_any (n most : Int) (h0 : 0 ≤ n) (h1 : n ≤ most) (W : World) : Calls Tryz.prog 78 #[.int .i64 n, .int .i64 most] W fun ed w' => ed = .returned (.int .i64 n) ∧ w' = W := by
  have hm := must_any 0 144
  have d0 : decide (n ≥ 0) = true := by simpa using h0
  have d1 : decide (n ≤ most) = true := by simpa using h1
  go_enter Tryz.func78, Tryz.ntmps78
  go_wp2_with fail
  refine (hm _).mono ?_
  rintro e w1 ⟨rfl, rfl⟩
  go_wp2
  go_ret
  exact ⟨rfl, rfl⟩
set_option maxRecDepth 100000 in
set_option maxHeartbeats 2000000 in
theorem keyed_any (W : World) : Calls Tryz.prog 101 #[.agg keyA] W fun ed w' => ed = .returned (.bool true) ∧ Below W.heap.size W w' := by
  have hb := Blk.new W 58 keyA
  have B0 := (Below.refl W.heap.size W).alloc (Nat.le_refl _) (.cells keyA 58)
  have hlt := hb.lt
  have hR : Rd (W.alloc (.cells keyA 58)) (W.alloc (.cells keyA 58)).heap.size 1 (some ⟨W.heap.size, 0, none⟩) 68 (bcells keyL) := (hb.rd (size := 1) (n := 68) (by kernel_rfl)).more (by omega)
  have hko := mKeyOf_yes (some ⟨W.heap.size, 0, none⟩) 68 keyL _ hR (Nat.le_refl _) (by decide) _ _ rfl rfl
  go_enter Tryz.func101, Tryz.ntmps101
  go_wp2_with fail
  refine hko.mono ?_
  rintro e w1 ⟨rfl, hB1⟩
  obtain ⟨kc, hkc⟩ : ∃ kc, kc = (keyCells (rdNum keyL 0 4 false) ((keyL.drop 4).take 32) (keyL.drop 36)).toArray := ⟨_, rfl⟩
  have hk1 : ∀ v ∈ kc.toList, v.oneCell' = true := by
    rw [hkc]
    decide +kernel
  have hki : (Tryz.prog.info? 231).map (·.size) = some kc.size := by rw [hkc]; kernel_rfl
  have hkz : kc.size = (Tryz.zeroCells231).size := by rw [hkc]; kernel_rfl
  rw [← hkc]
  have B1 := B0.trans (hB1.mono B0.size)
  have hn := Blk.new w1 231 Tryz.zeroCells231
  have B2 := B1.alloc B1.size (.cells Tryz.zeroCells231 231)
  have hs2 := B1.size
  clear hko hkc hR hb hlt B0 hB1 B1
  go_wp2_with (first
    | ((with_reducible refine at_store 231 ?_); refine wpList_storeAll _ rfl 231 _ _ rfl w1.heap.size 231 _ kc hn rfl (by kernel_rfl) hkz hki hk1 ?_; intro W2 hb2 hg2 hs3))
  go_ret
  exact ⟨rfl, grown_below B2 hg2 B2.size (by omega)⟩
end Go.Proofs.YtpellkblaeeopaaGreatDoor
/-
  Walks: report.Digits, portreeveref29.Digits and decimal: both are the decimal digits.
-/
namespace Go.Proofs.YtpellkblaeeopaaGreatDoor
open Go.RowKit

theorem addrD_lit (g o k : Nat) : (⟨g, o, none⟩ : Addr).add k = ⟨g, o + k, none⟩ := by unfold Addr.add; split <;> simp_all
theorem Blk.rdAtD {w : World} {g : Nat} {t : TypeId} {cs : Array Value} (h : Blk w g t cs) (size off n : Nat) (hn : off + n * size ≤ cs.size) :
    Rd w w.heap.size size (some ⟨g, off, none⟩) n ((cs.toList.drop off).take (n * size)) := by
  refine ⟨by rw [List.length_take, List.length_drop, Array.length_toList]; omega, fun k v hv => ⟨_, rfl, h.lt, ?_⟩⟩
  rw [addrD_lit, h.cell]
  rw [List.getElem?_take] at hv
  split at hv
  · rw [List.getElem?_drop] at hv; simpa using hv
  · cases hv

def decDig (d : Nat) : UInt8 := UInt8.ofNat (48 + d)
theorem decDig_nat (d : Nat) (h : d < 10) : (decDig d).toNat = 48 + d := by unfold decDig; rw [UInt8.toNat_ofNat']; omega
/-- the j lowest digits to the base 10 -/
def ddigs (x : Nat) : Nat → List UInt8
  | 0 => []
  | j + 1 => decDig (x / 10 ^ j % 10) :: ddigs x j
theorem ddigs_length (x : Nat) : ∀ j, (ddigs x j).length = j
  | 0 => rfl
  | j + 1 => by simp [ddigs, ddigs_length x j]
structure DecLen (x J : Nat) : Prop where
  one : 1 ≤ J
  done : x / 10 ^ J = 0
  more : ∀ i, 1 ≤ i → i < J → x / 10 ^ i ≠ 0
theorem DecLen.uniq {x J K : Nat} (h : DecLen x J) (k : DecLen x K) : J = K := by
  rcases Nat.lt_trichotomy J K with h1 | h1 | h1
  · exact absurd h.done (k.more J h.one h1)
  · exact h1
  · exact absurd k.done (h.more K k.one h1)
theorem div10_succ (x j : Nat) : x / 10 ^ (j + 1) = x / 10 ^ j / 10 := by rw [Nat.pow_succ, Nat.div_div_eq_div_mul]
def dlen (x : Nat) : Nat := if h : x < 10 then 1 else dlen (x / 10) + 1
termination_by x
decreasing_by omega
theorem dlen_is (x : Nat) : DecLen x (dlen x) := by
  induction x using Nat.strongRecOn with
  | _ x ih =>
    rw [dlen]
    split
    · exact ⟨Nat.le_refl _, by simp; omega, fun i h1 h2 => by omega⟩
    · rename_i hx
      obtain ⟨h1, h2, h3⟩ := ih (x / 10) (by omega)
      refine ⟨by omega, ?_, fun i g1 g2 => ?_⟩
      · rw [Nat.pow_succ, Nat.mul_comm, ← Nat.div_div_eq_div_mul]; exact h2
      · rcases Nat.lt_or_ge i 2 with g3 | g3
        · obtain rfl : i = 1 := by omega
          simp; omega
        · have := h3 (i - 1) (by omega) (by omega)
          rw [Nat.div_div_eq_div_mul, Nat.mul_comm, ← Nat.pow_succ, show (i - 1).succ = i by omega] at this
          exact this
def decStr (x : Nat) : List UInt8 := ddigs x (dlen x)
theorem decStr_of {x J : Nat} (h : DecLen x J) : ddigs x J = decStr x := by rw [decStr, h.uniq (dlen_is x)]
theorem decLen_le {x J : Nat} (hx : x < 18446744073709551616) (h : DecLen x J) : J ≤ 20 := by
  rcases Nat.lt_or_ge 20 J with h1 | h1
  · exact absurd (Nat.div_eq_of_lt (Nat.lt_of_lt_of_le hx (by decide))) (h.more 20 (by omega) h1)
  · exact h1
/-- the loop's law: a number's digits go into an array from its end -/
def DLoop (w : World) (x : Nat) (n i : Value) (wr : World) : Prop :=
  ∃ j q : Nat, j + q = 20 ∧ 1 ≤ q ∧ i = .int .i64 q ∧ (∀ i, 1 ≤ i → i < j + 1 → x / 10 ^ i ≠ 0) ∧ ∃ m : Nat, m = x / 10 ^ j ∧ m < 18446744073709551616 ∧ n = .int .u64 (m : Nat) ∧
    ∃ X : List Value, X.length = q ∧ Blk wr w.heap.size 179 (X ++ bcells (ddigs x j)).toArray ∧ Below w.heap.size w wr

attribute [local irreducible] Utf8.encode
end Go.Proofs.YtpellkblaeeopaaGreatDoor
