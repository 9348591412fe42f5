/-
  Parts: GeD GeE Opq GeI GeG.
-/
import Derived.Test.YtpellkblaeeopaaGreatDoorC17
import Derived.Test.YtpellkblaeeopaaGreatDoorC18
import Derived.Test.YtpellkblaeeopaaGreatDoorC03
import Derived.Test.YtpellkblaeeopaaGreatDoorC08
/-
  Walks for awake35: text.wide, text.perm, text.decimal, text.digits.
-/
namespace Go.Proofs.YtpellkblaeeopaaGreatDoor
open Go.RowKit

theorem hexLen_le {x J : Nat} (hx : x < 18446744073709551616) (h : HexLen x J) : J ≤ 16 := by
  rcases Nat.lt_or_ge 16 J with h1 | h1
  · exact absurd (Nat.div_eq_of_lt (Nat.lt_of_lt_of_le hx (by decide))) (h.more 16 (by omega) h1)
  · exact h1
/-- a text that is not long -/
def Short (v : Value) : Prop := ∃ s : List UInt8, v = strVE s ∧ s.length ≤ 30
set_option maxRecDepth 100000 in
set_option maxHeartbeats 2000000 in
theorem wide_any (x : Nat) (hx : x < 18446744073709551616) (w : World) : Calls Tryz.prog 40 #[.int .u64 (x : Int)] w fun e w' => (∃ v, e = .returned v ∧ Short v) ∧ Below w.heap.size w w' := by
  go_enter Tryz.func40, Tryz.ntmps40
  go_wp2_with fail
  refine (hex_any x hx w).mono ?_
  rintro e w1 ⟨⟨J, hJ, rfl⟩, hB⟩
  have hl := hexLen_le hx hJ
  obtain ⟨S, HS⟩ : ∃ S, Hid (S = digs x J) := ⟨_, Lib.hid rfl⟩
  have hSl : S.length ≤ 16 := by rw [HS.out, digs_length]; exact hl
  rw [← HS.out]
  go_wp2_with fail
  go_ret
  exact ⟨⟨_, rfl, [48, 120] ++ S, by simp [strVE, ByteArray.mk_append_mk], by simp; omega⟩, hB⟩
set_option maxRecDepth 100000 in
set_option maxHeartbeats 2000000 in
theorem perm_any (p : Nat) (hp : p = 7 ∨ p = 3 ∨ p = 1) (w : World) : Calls Tryz.prog 41 #[.int .i64 (p : Int)] w fun e w' => (∃ v, e = .returned v ∧ Short v) ∧ Below w.heap.size w w' := by
  have hn0 := fun ty => run_next_ascii (P := Tryz.prog) w ⟨#[114, 119, 120]⟩ 0 ty (by decide) (by decide)
  have hn1 := fun ty => run_next_ascii (P := Tryz.prog) w ⟨#[114, 119, 120]⟩ 1 ty (by decide) (by decide)
  have hn2 := fun ty => run_next_ascii (P := Tryz.prog) w ⟨#[114, 119, 120]⟩ 2 ty (by decide) (by decide)
  have hn3 := fun ty => run_next_end (P := Tryz.prog) w ⟨#[114, 119, 120]⟩ 3 ty (by decide)
  have b7 : (bits BinOp.and IntKind.i64 7 1 == 1) = true := by decide
  have b3 : (bits BinOp.and IntKind.i64 3 1 == 1) = true := by decide
  have b1 : (bits BinOp.and IntKind.i64 1 1 == 1) = true := by decide
  have b0 : (bits BinOp.and IntKind.i64 0 1 == 1) = false := by decide
  have z7 : ((⟨#[]⟩ : ByteArray) ++ (⟨#[114, 119, 120]⟩ : ByteArray).extract 0 1 ++ (⟨#[114, 119, 120]⟩ : ByteArray).extract 1 2 ++ (⟨#[114, 119, 120]⟩ : ByteArray).extract 2 3).toList.isEmpty = false := by decide +kernel
  have z3 : ((⟨#[]⟩ : ByteArray) ++ (⟨#[114, 119, 120]⟩ : ByteArray).extract 0 1 ++ (⟨#[114, 119, 120]⟩ : ByteArray).extract 1 2).toList.isEmpty = false := by decide +kernel
  have z1 : ((⟨#[]⟩ : ByteArray) ++ (⟨#[114, 119, 120]⟩ : ByteArray).extract 0 1).toList.isEmpty = false := by decide +kernel
  have hB : ∀ k, Below w.heap.size w (w.iter ⟨#[114, 119, 120]⟩ k) := fun k => (Below.refl _ _).alloc (Nat.le_refl _) _
  rcases hp with rfl | rfl | rfl
  all_goals
    go_enter Tryz.func41, Tryz.ntmps41
    go_wp2_with fail
    refine wp_loop_rounds 4 ?_
    simp only [rounds_succ]
    go_wp2_with fail
    simp only [rounds_succ]
    go_wp2_with fail
    simp only [rounds_succ]
    go_wp2_with fail
    simp only [rounds_succ]
    go_wp2_with fail
    go_ret
  · exact ⟨⟨_, rfl, [114, 119, 120], by kernel_rfl, by decide⟩, hB _⟩
  · exact ⟨⟨_, rfl, [114, 119], by kernel_rfl, by decide⟩, hB _⟩
  · exact ⟨⟨_, rfl, [114], by kernel_rfl, by decide⟩, hB _⟩
set_option maxRecDepth 100000 in
set_option maxHeartbeats 2000000 in
theorem decimal_all (x : Nat) (S : List UInt8) (HS : Hid (S = decStr x)) (hx : x < 18446744073709551616) (w : World) :
    Calls Tryz.prog 38 #[.int .u64 (x : Nat)] w fun e w' => e = .returned (.string ⟨S.toArray⟩) ∧ Below w.heap.size w w' := by
  go_enter Tryz.func38, Tryz.ntmps38
  go_wp2
  go_loopw [0, 4] (fun n i wr => DLoop w x n i wr) (fun n _ _ => (intOf n).toNat)
  case atStart =>
    exact ⟨0, 20, rfl, by omega, rfl, fun i h1 h2 => by omega, x, by simp, hx, rfl, List.replicate 20 (.int .u8 0), rfl, Blk.new _ _ _, (Below.refl _ _).alloc (Nat.le_refl _) _⟩
  case round =>
    obtain ⟨j, q, hjq, hq1, rfl, hmore, m, hm', hm, rfl, X, hX, hb, hB⟩ := hrel
    have Hm := Lib.hid hm'
    have HX := Lib.hid hX
    clear hm' hX
    have hlt : m % 10 < 10 := by omega
    have hcu : IntKind.u8.wrap (48 + (m : Int) % 10) = ((decDig (m % 10)).toNat : Int) := by
      rw [decDig_nat _ hlt, IntWalk.u8_in _ (by omega)]; omega
    have hsz : (X ++ bcells (ddigs x j)).toArray.size = 20 := by simp [HX.out, bcells_length, ddigs_length]; omega
    obtain ⟨v0, hc⟩ : ∃ v0, wr.cell? ⟨w.heap.size, q - 1, none⟩ = some v0 := ⟨_, by rw [hb.cell]; exact Array.getElem?_eq_getElem (by omega)⟩
    have hf : wr.frozen? ⟨w.heap.size, q - 1, none⟩ = false := hb.frozen _
    have hset : ((X ++ bcells (ddigs x j)).toArray.setIfInBounds (q - 1) (.int .u8 (decDig (m % 10)).toNat)) = (X.take (q - 1) ++ bcells (ddigs x (j + 1))).toArray := by
      have e1 : X.length = q := HX.out
      have e2 : m = x / 10 ^ j := Hm.out
      have e3 : X = X.take (q - 1) ++ [X[q - 1]'(by omega)] := by
        have := List.take_succ_eq_append_getElem (l := X) (i := q - 1) (by omega)
        rw [← this]; exact (List.take_of_length_le (by omega)).symm
      have e4 : (X.take (q - 1)).length = q - 1 := by rw [List.length_take]; omega
      conv => lhs; rw [e3]
      apply Array.toList_inj.1
      simp only [List.setIfInBounds_toArray, List.append_assoc, List.set_append, e4]
      simp [bcells, ddigs, ← e2]
    have hb' := hb.set_ (q - 1) (.int .u8 (decDig (m % 10)).toNat)
    rw [hset] at hb'
    have HB' := Lib.hid hb'
    have HF := Lib.hid hjq
    have hq20 : q ≤ 20 := by omega
    clear hset hsz hb' hb hjq
    by_cases hz0 : m / 10 = 0
    · have hz : ((m : Int) / 10 == 0) = true := by simp; omega
      have hlen : DecLen x (j + 1) := ⟨by omega, by rw [div10_succ, ← Hm.out]; exact hz0, hmore⟩
      have hsl : ∀ W, (Instr.sliceAt 179 (.pointer (some ⟨w.heap.size, 0, none⟩)) (some (.int .i64 ((q : Int) - 1))) none none).run Tryz.prog W = .ok (.slice (some ⟨w.heap.size, q - 1, none⟩) (21 - q) (21 - q)) W := by
        intro W
        have := run_sliceAt_lo (P := Tryz.prog) W Tryz.underlying179 (show (Tryz.prog.info? 5).map (·.size) = some 1 by kernel_rfl) ⟨w.heap.size, 0, none⟩ .i64 (q - 1) (by omega)
        rw [if_neg (by omega), addrD_lit] at this
        have e : ((q - 1 : Nat) : Int) = (q : Int) - 1 := by omega
        rw [e] at this
        rw [this]
        congr 2 <;> first | omega | (congr 2; omega)
      have hrd : ∀ W, W = (wr.setCell ⟨w.heap.size, q - 1, none⟩ (.int .u8 (decDig (m % 10)).toNat)) → Rd W W.heap.size 1 (some ⟨w.heap.size, q - 1, none⟩) (21 - q) (bcells (ddigs x (j + 1))) := by
        rintro W rfl
        have e1 : X.length = q := HX.out
        have e4 : (X.take (q - 1)).length = q - 1 := by rw [List.length_take]; omega
        have e5 := HF.out
        have := HB'.out.rdAtD 1 (q - 1) (21 - q) (by simp [bcells_length, ddigs_length]; omega)
        have e6 : ((X.take (q - 1) ++ bcells (ddigs x (j + 1))).toArray.toList.drop (q - 1)).take ((21 - q) * 1) = bcells (ddigs x (j + 1)) := by
          rw [List.drop_left' e4, List.take_of_length_le (by simp [bcells_length, ddigs_length]; omega)]
        rw [e6] at this; exact this
      rw [decStr_of hlen, ← HS.out] at hrd
      have hll : Hid (S.length ≤ 20) := Lib.hid (by rw [HS.out, ← decStr_of hlen, ddigs_length]; exact decLen_le hx hlen)
      by_cases h16 : q = 1
      · subst h16
        have hsl' : ∀ W, (Instr.sliceAt 179 (.pointer (some ⟨w.heap.size, 0, none⟩)) (some (.int .i64 0)) none none).run Tryz.prog W = .ok (.slice (some ⟨w.heap.size, 0, none⟩) 20 20) W := hsl
        have hrd' : ∀ W, W = (wr.setCell ⟨w.heap.size, 0, none⟩ (.int .u8 (decDig (m % 10)).toNat)) → Rd W W.heap.size 1 (some ⟨w.heap.size, 0, none⟩) 20 (bcells S) := hrd
        have hc' : wr.cell? ⟨w.heap.size, 0, none⟩ = some v0 := hc
        have hf' : wr.frozen? ⟨w.heap.size, 0, none⟩ = false := hf
        clear hsl hrd hc hf
        go_wp2_with ((with_reducible refine at_conv ?_); refine wpList_str _ Tryz.underlying73 Tryz.underlying5 Tryz.underlying9 rfl _ rfl (some ⟨w.heap.size, 0, none⟩) 20 20 S rfl (hrd' _ rfl) ?_)
        go_ret
        exact ⟨rfl, hB.setCell (Nat.le_refl _) _⟩
      · go_wp2_with ((with_reducible refine at_conv ?_); refine wpList_str _ Tryz.underlying73 Tryz.underlying5 Tryz.underlying9 rfl _ rfl (some ⟨w.heap.size, q - 1, none⟩) (21 - q) (21 - q) S rfl (hrd _ rfl) ?_)
        go_ret
        exact ⟨rfl, hB.setCell (Nat.le_refl _) _⟩
    · have hz : ((m : Int) / 10 == 0) = false := by simp; omega
      have hq2 : 2 ≤ q := by
        rcases Nat.lt_or_ge q 2 with h | h
        · exfalso
          obtain rfl : j = 19 := by have := HF.out; omega
          have := Hm.out
          rw [this, ← div10_succ] at hz0
          exact hz0 (Nat.div_eq_of_lt (Nat.lt_of_lt_of_le hx (by decide)))
        · exact h
      go_wp2
      go_roundw
      case rel =>
        refine ⟨j + 1, q - 1, by have := HF.out; omega, by omega, by go_num, ?_, m / 10, by rw [div10_succ, ← Hm.out], by omega, by go_num, X.take (q - 1), by rw [List.length_take, HX.out]; omega, HB'.out, hB.setCell (Nat.le_refl _) _⟩
        intro i h1 h2
        rcases Nat.lt_or_ge i (j + 1) with h3 | h3
        · exact hmore i h1 h3
        · obtain rfl : i = j + 1 := by omega
          rw [div10_succ, ← Hm.out]; exact hz0
      case measure => simp [intOf]; omega

theorem decimal_any (x : Nat) (hx : x < 18446744073709551616) (w : World) : Calls Tryz.prog 38 #[.int .u64 (x : Int)] w fun e w' => (∃ v, e = .returned v ∧ Short v) ∧ Below w.heap.size w w' :=
  (decimal_all x (decStr x) (Lib.hid rfl) hx w).mono fun e w' ⟨h1, h2⟩ => ⟨⟨_, h1, decStr x, rfl, by have := decLen_le hx (dlen_is x); rw [decStr, ddigs_length]; omega⟩, h2⟩
end Go.Proofs.YtpellkblaeeopaaGreatDoor
/-
  Walk for awake35: text.digits.
-/
namespace Go.Proofs.YtpellkblaeeopaaGreatDoor
open Go.RowKit

theorem run_ixHex (d : Nat) (h : d < 16) (W : World) : (Instr.index 9 (.string ⟨#[48, 49, 50, 51, 52, 53, 54, 55, 56, 57, 97, 98, 99, 100, 101, 102]⟩) (.int .u8 (d : Int))).run Tryz.prog W = .ok (.int .u8 ((hexDig d).toNat : Int)) W := by
  have h' : d = 0 ∨ d = 1 ∨ d = 2 ∨ d = 3 ∨ d = 4 ∨ d = 5 ∨ d = 6 ∨ d = 7 ∨ d = 8 ∨ d = 9 ∨ d = 10 ∨ d = 11 ∨ d = 12 ∨ d = 13 ∨ d = 14 ∨ d = 15 := by omega
  rcases h' with rfl | rfl | rfl | rfl | rfl | rfl | rfl | rfl | rfl | rfl | rfl | rfl | rfl | rfl | rfl | rfl <;> (refine Eq.trans ?_ rfl; kernel_rfl)
theorem run_b2 (w : World) (c d : UInt8) : (Instr.buildSlice 73 2 #[(0, .int .u8 (c.toNat : Int)), (1, .int .u8 (d.toNat : Int))]).run Tryz.prog w = .ok (.slice (some ⟨w.heap.size, 0, none⟩) 2 2) (w.alloc (.cells #[.int .u8 (c.toNat : Int), .int .u8 (d.toNat : Int)] 5)) := by
  have := run_buildSlice_all (P := Tryz.prog) w elB 2 #[(0, .int .u8 (c.toNat : Int)), (1, .int .u8 (d.toNat : Int))] [.int .u8 (c.toNat : Int), .int .u8 (d.toNat : Int)] rfl rfl (by omega) (by omega) (by simp [Value.cells])
  simpa [flat, Value.cells] using this
set_option maxRecDepth 100000 in
set_option maxHeartbeats 4000000 in
theorem digits_any (A0 : Option Addr) (n c0 : Nat) (l : List UInt8) (hn : n ≤ 1000) (w : World) (hR : Rd w w.heap.size 1 A0 n (bcells l)) :
    Calls Tryz.prog 79 #[.slice A0 n c0] w fun e w' => (∃ S : List UInt8, e = .returned (strVE S) ∧ S.length = 2 * n) ∧ Below w.heap.size w w' := by
  have hln : l.length = n := by have := hR.len; rw [bcells_length] at this; omega
  have HLN := Lib.hid hln
  clear hln
  go_enter Tryz.func79, Tryz.ntmps79
  go_wp2_with (at_make; refine wpList_makeN w elB rfl _ _ rfl .i64 .i64 _ _ 0 (2 * n) rfl rfl rfl (by omega) (by omega) (by omega) (by omega) ?_; intro w1 hb1 hs1 hB1)
  have hO1 : w1.ownsRow w.heap.size 5 1 (.slice (some ⟨w.heap.size, 0, none⟩) 0 (2 * n)) 0 [] := ⟨rfl, .inr ⟨w.heap.size, 2 * n, _, rfl, Nat.le_refl _, hb1, Nat.zero_le _, by simp only [maxLen]; omega, by simp [size_madeCells], rfl⟩⟩
  clear hb1 hs1
  go_loopw [3, 12] (fun s i wr => ∃ j : Nat, j ≤ n ∧ i = .int .i64 (j : Int) ∧ ∃ (k : Nat) (A : Option Addr) (c : Nat) (S : List UInt8), k = 2 * j ∧ s = .slice A k c ∧ wr.ownsRow w.heap.size 5 1 (.slice A k c) k (bcells S) ∧ Below w.heap.size w wr) (fun _ i _ => n - (intOf i).toNat)
  case atStart => exact ⟨0, Nat.zero_le _, rfl, 0, _, _, [], rfl, rfl, hO1, hB1⟩
  case round =>
    obtain ⟨j, hj, rfl, k, A, c, S, hkj, rfl, hO, hB⟩ := hrel
    have HKJ := Lib.hid hkj
    have hk2 : k ≤ 2000 := by omega
    have hBz := hB.size
    by_cases hjn : j < n
    · obtain ⟨b, hb⟩ : ∃ b, l[j]? = some b := ⟨_, List.getElem?_eq_getElem (by rw [HLN.out]; exact hjn)⟩
      obtain ⟨ad, rfl, hadb, hcell⟩ := (hR.below hB).cells (by omega)
      have hcb := hcell j (.int .u8 (b.toNat : Int)) (by rw [bcells, List.getElem?_map, hb]; rfl)
      obtain ⟨v, hv⟩ : ∃ v, v = b.toNat := ⟨_, rfl⟩
      have hv8 : v < 256 := by rw [hv]; exact b.toNat_lt
      rw [← hv] at hcb
      clear hv hb hkj hcell hO1
      obtain ⟨p, hp⟩ : ∃ p, p = v / 16 := ⟨_, rfl⟩
      obtain ⟨q, hq⟩ : ∃ q, q = v % 16 := ⟨_, rfl⟩
      have hp16 : p < 16 := by omega
      have hq16 : q < 16 := by omega
      have hsh : ((v : Int) / 16) = (p : Int) := by omega
      have han : bits BinOp.and IntKind.u8 (v : Int) 15 = (q : Int) := by
        rw [hq]
        have := u8_and_nat v 15 (by omega) (by omega)
        rw [nat_mask4] at this; exact this
      clear hp hq
      go_wp2_with fail
      have hBw := hB
      refine Flow.wp_region_flow (w.heap.size) [(8, fun b => (Value.slice A k c).ownBlock = some b)] [(8, fun W => W.ownsRow w.heap.size 5 1 (.slice A k c) k (bcells S))] (by kernel_rfl) (by kernel_rfl) hBz (Flow.nz_cons (fun b hb => (hO.lt b hb).1) Flow.nz_nil) (Flow.facts_cons (hO.drew) (Flow.kept_own (fun _ _ => id)) (Flow.fz_cons (Flow.no_follow (by kernel_rfl)) Flow.fz_nil) Flow.facts_nil)  ?_
      refine Flow.pass_old (X := .slice A k c) 3 (Flow.met_none rfl) (.inl rfl) (by kernel_rfl) (by kernel_rfl) rfl ?_
      refine Flow.pass_old (X := .int .u8 (v : Int)) 5 (Flow.met_none rfl) (.inl rfl) (by kernel_rfl) (by kernel_rfl) rfl ?_
      refine Flow.pass_val (.int .u8 (p : Int)) (Flow.met_none rfl) (fun a W hH => ?_) ?_
      · have e0 := Flow.see_new 17 1 hH.sees (by kernel_rfl) (by kernel_rfl) rfl rfl
        go_simp; first | done | rfl | exact hsh | omega
      refine Flow.pass_val (.int .u8 ((hexDig (p)).toNat : Int)) (Flow.met_none rfl) (fun a W hH => ?_) ?_
      · have e0 := Flow.see_new 18 2 hH.sees (by kernel_rfl) (by kernel_rfl) rfl rfl
        simp [execOp, Act.eval, e0, run_ixHex (p) (by omega) W, Result.andThen]
      refine Flow.pass_old (X := .int .u8 (v : Int)) 5 (Flow.met_none rfl) (.inl rfl) (by kernel_rfl) (by kernel_rfl) rfl ?_
      refine Flow.pass_val (.int .u8 (q : Int)) (Flow.met_none rfl) (fun a W hH => ?_) ?_
      · have e0 := Flow.see_new 20 4 hH.sees (by kernel_rfl) (by kernel_rfl) rfl rfl
        go_simp; first | done | rfl | exact han | omega
      refine Flow.pass_val (.int .u8 ((hexDig (q)).toNat : Int)) (Flow.met_none rfl) (fun a W hH => ?_) ?_
      · have e0 := Flow.see_new 21 5 hH.sees (by kernel_rfl) (by kernel_rfl) rfl rfl
        simp [execOp, Act.eval, e0, run_ixHex (q) (by omega) W, Result.andThen]
      refine Flow.pass_gen (fun x W => ∃ b, x = .slice (some ⟨b, 0, none⟩) 2 2 ∧ (wr.heap.size ≤ b ∧ Blk W b 5 #[.int .u8 ((hexDig p).toNat : Int), .int .u8 ((hexDig q).toNat : Int)])) (Flow.kept_of (fun _ _ _ c ⟨b, h1, h2, h3⟩ => ⟨b, h1, h2, h3.chg c id⟩) (Flow.kz_cons (fun _ => fun _ _ _ c ⟨b, h1, h2, h3⟩ => ⟨b, h1, h2, h3.chg c (fun hb => by have := (hO.lt b hb).2; omega)⟩) Flow.kz_nil)) (Flow.met_none rfl) (fun a W hH => ?_) ?_
      · have e0 := Flow.see_new 19 3 hH.sees (by kernel_rfl) (by kernel_rfl) rfl rfl
        have e1 := Flow.see_new 22 6 hH.sees (by kernel_rfl) (by kernel_rfl) rfl rfl
        refine Flow.wp_run (Flow.reg_buildSlice _ rfl (by simp [Act.eval, e0, e1]) (run_b2 W (hexDig p) (hexDig q))) ?_
        exact ⟨_, rfl, Chg.of_ext ((Ext.refl W).alloc _), W.heap.size, rfl, hH.below.size, Blk.new _ _ _⟩
      refine Flow.pass_list (fun x W => ∃ A1 c1, x = .slice A1 (k + 2) c1 ∧ W.ownsRow w.heap.size 5 1 (.slice A1 (k + 2) c1) (k + 2) (bcells (S ++ [hexDig p, hexDig q]))) (Flow.kept_of (fun _ _ _ c ⟨A1, c1, h1, h2⟩ => ⟨A1, c1, h1, own_chg h2 c (fun _ _ => id)⟩) (Flow.kz_cons (Flow.no_follow (by kernel_rfl)) Flow.kz_nil)) (Flow.met_none rfl) (fun a W hH => ?_) ?_
      · have e0 := Flow.see_new 16 0 hH.sees (by kernel_rfl) (by kernel_rfl) rfl rfl
        obtain ⟨b1, e1, q1⟩ := Flow.see_up 23 7 hH.sees (by kernel_rfl) (by kernel_rfl) rfl rfl
        have fa0 : (fun W => W.ownsRow w.heap.size 5 1 (.slice A k c) k (bcells S)) W := hH.fact _ (List.mem_of_getElem? (i := 0) rfl) rfl
        refine wpList_app W elB rfl _ _ rfl w.heap.size A k c _ (by simpa [Act.eval] using e0) fa0 W.heap.size (some ⟨b1, 0, none⟩) 2 2 (bcells [hexDig p, hexDig q]) (by simpa [Act.eval] using e1) (by have := q1.2.rd (size := 1) (n := 2) rfl; simpa [bcells] using this) (bcells_one _) (by omega) (by omega) (Nat.le_trans hBz hH.below.size) ?_
        intro A1 c1 W2 hO2 hg hB hob
        exact Flow.qq_nil ⟨_, rfl, Chg.grown hg (fun b hb => hb), A1, c1, rfl, (by rw [bcells_app]; exact hO2)⟩
      refine Flow.pass_copy 24 8 (Flow.met_none rfl) (.inr rfl) (by kernel_rfl) (by kernel_rfl) rfl rfl (Flow.kept_of (fun _ _ _ c ⟨A1, c1, h1, h2⟩ => ⟨A1, c1, h1, own_chg h2 c (fun _ _ => id)⟩) (Flow.kz_cons (Flow.no_follow (by kernel_rfl)) Flow.kz_nil)) ?_
      refine Flow.pass_end [none, none, none, some 3, none, none, none, none, none, none, none, none, none, none, none, none, some 16, some 17, some 18, some 19, some 20, some 21, some 22, some 23, some 24, none, none, none] (by kernel_rfl) ?_
      intro f gg w9 hB hfa hT hfg
      obtain ⟨A13, c13, h3, g3⟩ := hT 9 _ (by kernel_rfl) rfl
      rw [← hfg 3 9 (by kernel_rfl)] at h3
      have hB9 : Below w.heap.size w w9 := hBw.trans ((Below.refl _ wr).drew.trans hB)
      simp only [Reg.sel, h3]
      clear hT hfg hfa
      go_wp2_with fail
      go_roundw
      case rel => exact ⟨j + 1, by omega, by go_num, k + 2, _, _, _, by have := HKJ.out; omega, rfl, g3, hB9⟩
      case measure => simp [intOf]; omega
    · obtain rfl : j = n := by omega
      have hrd := Rd.of_own hO
      go_wp2_with ((with_reducible refine at_conv ?_); refine wpList_str _ Tryz.underlying73 Tryz.underlying5 Tryz.underlying9 rfl _ rfl A k c S rfl hrd ?_)
      go_ret
      exact ⟨⟨S, rfl, by have := hO.1; rw [bcells_length] at this; have := HKJ.out; omega⟩, hB⟩
end Go.Proofs.YtpellkblaeeopaaGreatDoor
/-
  Steps that make a block, the world behind them not told but by what is known of it.
-/
namespace Go.Proofs.YtpellkblaeeopaaGreatDoor
open Go.RowKit

section
variable {P : Program} {ops : Array Oper} {rest : List Oper} {o : Oper} {a : Act} {Q : Exit → Act → World → Prop}
theorem wpList_boxO (W : World) (hw : Region.wanted o (yielded ops a.tmps) = true) {ty : TypeId} {x : Operand} (ho : o.op = .box ty x) (cs : Array Value) (hx : a.eval x = .agg cs)
    (h : ∀ W2 b, Ext W W2 → W.heap.size ≤ b → Blk W2 b ty cs → wpList P ops Q rest (a.put o.dst (.pointer (some ⟨b, 0, none⟩))) W2) : wpList P ops Q (o :: rest) a W := by
  refine wpList_runV (v := .pointer (some ⟨W.heap.size, 0, none⟩)) (w' := W.alloc (.cells cs ty)) hw ?_ (h _ _ ((Ext.refl W).alloc _) (Nat.le_refl _) (Blk.new _ _ _))
  have : (Instr.box ty (a.eval x)).run P W = .ok (.pointer (some ⟨W.heap.size, 0, none⟩)) (W.alloc (.cells cs ty)) := by rw [hx]; simp [Instr.box, Value.cells, go_sem]
  simp only [execOp, ho, Sem.run_bind, this, Result.andThen_ok]
  rfl
theorem wpList_allocO (W : World) (hw : Region.wanted o (yielded ops a.tmps) = true) {ty : TypeId} (ho : o.op = .alloc ty) (z : Value) (hz : ∀ W, (zeroValue ty).run P W = .ok z W)
    (h : ∀ W2 b, Ext W W2 → W.heap.size ≤ b → Blk W2 b ty z.cells → wpList P ops Q rest (a.put o.dst (.pointer (some ⟨b, 0, none⟩))) W2) : wpList P ops Q (o :: rest) a W := by
  refine wpList_runV (v := .pointer (some ⟨W.heap.size, 0, none⟩)) (w' := W.alloc (.cells z.cells ty)) hw ?_ (h _ _ ((Ext.refl W).alloc _) (Nat.le_refl _) (Blk.new _ _ _))
  simp [execOp, ho, hz, go_sem]
theorem wpList_bsO (W : World) (hw : Region.wanted o (yielded ops a.tmps) = true) {ty e : TypeId} {n : Nat} {parts : Array (Nat × Operand)} (ho : o.op = .buildSlice ty n parts) (vs : Array (Nat × Value)) (cs : Array Value) (he : (parts.map fun (i, x) => (i, a.eval x)) = vs)
    (hr : (Instr.buildSlice ty n vs).run P W = .ok (.slice (some ⟨W.heap.size, 0, none⟩) n n) (W.alloc (.cells cs e)))
    (h : ∀ W2 b, Ext W W2 → W.heap.size ≤ b → Blk W2 b e cs → wpList P ops Q rest (a.put o.dst (.slice (some ⟨b, 0, none⟩) n n)) W2) : wpList P ops Q (o :: rest) a W :=
  wpList_runV hw (Flow.reg_buildSlice vs ho he hr) (h _ _ ((Ext.refl W).alloc _) (Nat.le_refl _) (Blk.new _ _ _))
end
section
variable {P : Program} {ops : Array Oper} {rest : List Oper} {a : Act} {w : World} {Q : Exit → Act → World → Prop} {dst : Option Tmp} {ty : TypeId} {pos : String} {aft : Array Edge} {gd : Option (Nat × Bool)}
theorem at_box (t : TypeId) {x : Operand} (h : wpList P ops Q (⟨dst, .box t x, ty, pos, aft, gd⟩ :: rest) a w) : wpList P ops Q (⟨dst, .box t x, ty, pos, aft, gd⟩ :: rest) a w := h
theorem at_alloc (t : TypeId) (h : wpList P ops Q (⟨dst, .alloc t, ty, pos, aft, gd⟩ :: rest) a w) : wpList P ops Q (⟨dst, .alloc t, ty, pos, aft, gd⟩ :: rest) a w := h
end
end Go.Proofs.YtpellkblaeeopaaGreatDoor
/-
  Walks for awake35: cfg.writer.four, eight, two.
-/
namespace Go.Proofs.YtpellkblaeeopaaGreatDoor
open Go.RowKit

theorem own_baseE {w : World} {b b' size n : Nat} {e : TypeId} {v : Value} {xs : List Value} (h : w.ownsRow b e size v n xs) (hb : b' ≤ b) : w.ownsRow b' e size v n xs := by
  refine ⟨h.1, ?_⟩
  rcases h.2 with h | ⟨g, cap, cur, h1, h2, h3⟩
  · exact .inl h
  · exact .inr ⟨g, cap, cur, h1, Nat.le_trans hb h2, h3⟩
section
variable {ops : Array Oper} {rest : List Oper} {o : Oper} {a : Act} {Q : Exit → Act → World → Prop}
/-- the store of a row that a call made -/
theorem wpList_pgStoreF {w w1 : World} (hw : Region.wanted o (yielded ops a.tmps) = true) {ty : TypeId} {x y : Tmp} (hop : o.op = .store ty (.tmp x) (.tmp y)) (hi : (Tryz.prog.info? ty).map (·.size) = some 1) {T : TypeId} (hT : T ≠ 5) {g n' : Nat} {l l' : List UInt8} {A' : Option Addr} {c' : Nat}
    (hp : PgT T g l w) (hB : Below w.heap.size w w1) (ho1 : w1.ownsRow w.heap.size 5 1 (.slice A' n' c') n' (bcells l'))
    (hx : a.tmps[x]?.getD undef = .pointer (some ⟨g, 0, none⟩)) (hy : a.tmps[y]?.getD undef = .slice A' n' c')
    (h : ∀ W2, PgT T g l' W2 → KpT g w W2 → wpList Tryz.prog ops Q rest (a.put o.dst undef) W2) :
    wpList Tryz.prog ops Q (o :: rest) a w1 := by
  obtain ⟨A, c, hb, _⟩ := hp
  have hb1 : Blk w1 g T #[.slice A l.length c] := hb.ext hB
  have hlt := hb.lt
  have hn : n' = l'.length := by have := ho1.1; rw [bcells_length] at this; omega
  subst hn
  refine wpList_runS hw (reg_storeSlice hop hi hb1 hx hy (by simp)) (h _ ⟨A', c', hb1.set_ 0 _, own_chg (own_baseE ho1 (Nat.le_of_lt hlt)) (Chg.grown (Z := fun b => b = g) (grown_setE w1 g 0 _) (by rintro j h; cases h; rfl)) (fun b hb e => own_ne ho1 hb1 hT hb e)⟩ ?_)
  exact (KpT.of_ext hB (Nat.le_of_lt hlt)).trans (KpT.set_ w1 _)
end
set_option maxRecDepth 100000 in
set_option maxHeartbeats 2000000 in
theorem four_any (g : Nat) (l : List UInt8) (hl : l.length ≤ 100000) (A2 : Option Addr) (m c2 : Nat) (xs : List Nat) (hm : m ≤ 1000) (w : World) (hp : PgT 170 g l w) (h2 : Rd w w.heap.size 1 A2 m (xs.map fun (x : Nat) => Value.int .u32 (x : Int))) :
    Calls Tryz.prog 74 #[.pointer (some ⟨g, 0, none⟩), .slice A2 m c2] w fun e w' => e = .returned (.tuple #[]) ∧ PgT 170 g (l ++ putAll xs 4 false) w' ∧ KpT g w w' := by
  have hp' := hp
  obtain ⟨A, c, hb, ho⟩ := hp
  have c0 : w.cell? ⟨g, 0, none⟩ = some (.slice A l.length c) := (hb.cell 0).trans rfl
  have hT : 170 ≠ 5 := by decide
  go_enter Tryz.func74, Tryz.ntmps74
  go_wp2_with fail
  refine (putBe32_any A l.length c l w A2 m c2 xs (Rd.of_own ho) (by omega) h2 (by omega)).mono ?_
  rintro e w1 ⟨A', c', rfl, hO1, hB1⟩
  clear c0
  go_wp2_with ((with_reducible refine at_store 73 ?_); refine wpList_pgStoreF rfl rfl (by kernel_rfl) hT hp' hB1 hO1 rfl rfl ?_; intro W2 hp2 hk2)
  go_end0
  exact ⟨rfl, hp2, hk2⟩
set_option maxRecDepth 100000 in
set_option maxHeartbeats 2000000 in
theorem eight_any (g : Nat) (l : List UInt8) (hl : l.length ≤ 100000) (A2 : Option Addr) (m c2 : Nat) (xs : List Nat) (hm : m ≤ 1000) (w : World) (hp : PgT 170 g l w) (h2 : Rd w w.heap.size 1 A2 m (xs.map fun (x : Nat) => Value.int .u64 (x : Int))) :
    Calls Tryz.prog 77 #[.pointer (some ⟨g, 0, none⟩), .slice A2 m c2] w fun e w' => e = .returned (.tuple #[]) ∧ PgT 170 g (l ++ putAll xs 8 false) w' ∧ KpT g w w' := by
  have hp' := hp
  obtain ⟨A, c, hb, ho⟩ := hp
  have c0 : w.cell? ⟨g, 0, none⟩ = some (.slice A l.length c) := (hb.cell 0).trans rfl
  have hT : 170 ≠ 5 := by decide
  go_enter Tryz.func77, Tryz.ntmps77
  go_wp2_with fail
  refine (putBe64_any A l.length c l w A2 m c2 xs (Rd.of_own ho) (by omega) h2 (by omega)).mono ?_
  rintro e w1 ⟨A', c', rfl, hO1, hB1⟩
  clear c0
  go_wp2_with ((with_reducible refine at_store 73 ?_); refine wpList_pgStoreF rfl rfl (by kernel_rfl) hT hp' hB1 hO1 rfl rfl ?_; intro W2 hp2 hk2)
  go_end0
  exact ⟨rfl, hp2, hk2⟩
def twoB (ns : List Nat) : List UInt8 := ns.flatMap fun n => [UInt8.ofNat (n / 256), UInt8.ofNat (n % 256)]
theorem twoB_snoc (ns : List Nat) (k n : Nat) (h : ns[k]? = some n) : twoB (ns.take (k + 1)) = twoB (ns.take k) ++ [UInt8.ofNat (n / 256), UInt8.ofNat (n % 256)] := by
  obtain ⟨hk, rfl⟩ := List.getElem?_eq_some_iff.1 h
  rw [List.take_succ_eq_append_getElem hk]
  simp only [twoB, List.flatMap_append, List.flatMap_cons, List.flatMap_nil, List.append_nil]
theorem twoB_len (ns : List Nat) : (twoB ns).length = 2 * ns.length := by
  unfold twoB
  induction ns with
  | nil => rfl
  | cons n ns ih => simp only [List.flatMap_cons, List.length_append, List.length_cons, List.length_nil, ih]; omega
set_option maxRecDepth 100000 in
set_option maxHeartbeats 2000000 in
theorem two_any (g x : Nat) (l : List UInt8) (hl : l.length ≤ 100000) (m : Nat) (ns : List Nat) (hm : Hid (ns.length = m)) (hm1 : m ≤ 1000) (hns : ∀ n ∈ ns, n < 65536) (w : World) (hp : PgT 170 g l w) (h2 : Blk w x 3 (ns.map fun (n : Nat) => Value.int .i64 (n : Int)).toArray) :
    Calls Tryz.prog 75 #[.pointer (some ⟨g, 0, none⟩), .slice (some ⟨x, 0, none⟩) m m] w fun e w' => e = .returned (.tuple #[]) ∧ PgT 170 g (l ++ twoB ns) w' ∧ KpT g w w' := by
  have hT : 170 ≠ 5 := by decide
  have hI : (3 : Nat) ≠ 5 := by decide
  have hxg : x ≠ g := by
    rintro rfl
    obtain ⟨A, c, h1, _⟩ := hp
    unfold Blk at h1 h2
    rw [h1] at h2
    injection h2 with hx
    injection hx with _ hx
    cases hx
  go_enter Tryz.func75, Tryz.ntmps75
  go_wp2
  go_loopw [8] (fun i wr => ∃ k : Nat, k ≤ m ∧ i = .int .i64 (k : Int) ∧ ∃ L, Hid (L = l ++ twoB (ns.take k)) ∧ L.length ≤ l.length + 2 * k ∧ PgT 170 g L wr ∧ KpT g w wr) (fun i _ => m - (intOf i).toNat)
  case atStart => exact ⟨0, Nat.zero_le _, rfl, l, Lib.hid (by simp [twoB]), by omega, hp, KpT.refl _ _⟩
  case round =>
    obtain ⟨k, hk, rfl, L, HL, hLl, ⟨A3, c3, hb3, ho3⟩, hk3⟩ := hrel
    have cc3 : wr.cell? ⟨g, 0, none⟩ = some (.slice A3 L.length c3) := (hb3.cell 0).trans rfl
    have hgl : g ≤ wr.heap.size := Nat.le_of_lt hb3.lt
    by_cases hkm : k < m
    · obtain ⟨n, hn⟩ : ∃ n, ns[k]? = some n := ⟨_, List.getElem?_eq_getElem (by rw [hm.out]; exact hkm)⟩
      have hcx : wr.cell? ⟨x, k, none⟩ = some (.int .i64 (n : Int)) := ((hk3.blk x _ _ hI hxg h2).cell k).trans (by simp [hn])
      have hnb := hns n (List.mem_of_getElem? hn)
      have hsn := twoB_snoc ns k n hn
      have HSN := Lib.hid hsn
      obtain ⟨p, hp1⟩ : ∃ p, p = UInt8.ofNat (n / 256) := ⟨_, rfl⟩
      obtain ⟨q, hq1⟩ : ∃ q, q = UInt8.ofNat (n % 256) := ⟨_, rfl⟩
      have hd1 : IntKind.u8.wrap ((n : Int) / 256) = (p.toNat : Int) := by rw [hp1, UInt8.toNat_ofNat', IntWalk.u8_in _ (by omega)]; omega
      have hd2 : IntKind.u8.wrap (n : Int) = (q.toNat : Int) := by
        rw [hq1, UInt8.toNat_ofNat', IntKind.wrap_u8]
        omega
      have HP := Lib.hid hp1
      have HQ := Lib.hid hq1
      clear hn hsn hp1 hq1
      go_wp2_with (first
        | ((with_reducible refine at_buildSlice 73 ?_); refine wpList_bsO wr rfl rfl #[(0, .int .u8 (p.toNat : Int)), (1, .int .u8 (q.toNat : Int))] _ (by simp [Act.eval]) (run_b2 wr p q) ?_; intro W4 b4 hE4 hl4 hb4; have ho4 := own_chg ho3 (Chg.of_ext hE4) (fun _ _ => id))
        | ((with_reducible refine at_append ?_); refine wpList_app W4 elB rfl _ _ rfl g A3 L.length c3 _ rfl ho4 W4.heap.size (some ⟨b4, 0, none⟩) 2 2 (bcells [p, q]) rfl (by have := hb4.rd (size := 1) (n := 2) rfl; simpa [bcells] using this) (bcells_one _) (by omega) (by omega) (Nat.le_trans hgl hE4.size) ?_; intro A5 c5 W5 ho5 hg5 _ _)
        | ((with_reducible refine at_store 73 ?_); refine wpList_pgStore (l' := L ++ [p, q]) rfl rfl (by kernel_rfl) hT hb3 ho4 hE4 hg5 (by rw [bcells_app]; exact ho5) rfl rfl ?_; intro W6 A6 c6 hb6 ho6 hk6 cc6))
      go_roundw
      case rel => exact ⟨k + 1, by omega, by go_num, L ++ [p, q], Lib.hid (by rw [HL.out, HSN.out, HP.out, HQ.out, List.append_assoc]), by rw [List.length_append]; simp; omega, ⟨A6, c6, hb6, ho6⟩, hk3.trans hk6⟩
      case measure => simp [intOf]; omega
    · obtain rfl : k = m := by omega
      go_wp2_with fail
      go_end0
      refine ⟨rfl, ?_, hk3⟩
      rw [List.take_of_length_le (by rw [hm.out]; exact Nat.le_refl _)] at HL
      rw [← HL.out]
      exact ⟨A3, c3, hb3, ho3⟩
end Go.Proofs.YtpellkblaeeopaaGreatDoor
/-
  Walk for awake35: portreevelaw17.Small.
-/
namespace Go.Proofs.YtpellkblaeeopaaGreatDoor
open Go.RowKit

def chC : Array Value := #[.int .u64 1107296256, .int .u64 4096, .int .i64 0, .int .i64 3, .int .u64 268435456, .int .i64 1, .int .i64 1, .int .u64 536870912]
def bdC : Array Value := #[.int .u64 1073741824, .int .u64 134217728, .int .u64 1073741824, .int .u64 1048576, .int .i64 64, .int .i64 8, .int .i64 4]
def cfgC (bs bc : Nat) : Array Value := #[.int .u32 1, .slice (some ⟨bs, 0, none⟩) 2 2, .slice (some ⟨bc, 0, none⟩) 1 1]
def cz4 : Array Value := #[.int .u64 0, .int .u64 0, .int .u64 0, .int .u64 0, .int .i64 0, .int .i64 0, .int .i64 0]
def cz5 : Array Value := #[.int .u32 0, .slice none 0 0, .slice none 0 0]
theorem cz4s : bdC.size = cz4.size := rfl
theorem cz5s {a p : Nat} : (cfgC a p).size = cz5.size := rfl
theorem infBd : (Tryz.prog.info? 50).map (·.size) = some bdC.size := by kernel_rfl
theorem infCh : (Tryz.prog.info? 115).map (·.size) = some chC.size := by kernel_rfl
theorem infCf {a p : Nat} : (Tryz.prog.info? 55).map (·.size) = some (cfgC a p).size := by kernel_rfl
theorem bd_one : ∀ v ∈ bdC.toList, v.oneCell' = true := by decide +kernel
theorem ch_one : ∀ v ∈ chC.toList, v.oneCell' = true := by decide +kernel
theorem cf_one (a p : Nat) : ∀ v ∈ (cfgC a p).toList, v.oneCell' = true := by
  intro v hv
  simp only [cfgC, List.mem_cons, List.not_mem_nil, or_false] at hv
  rcases hv with rfl | rfl | rfl <;> rfl
/-- the guests in memory, with their rows -/
structure GsB (B : Nat) (W : World) (bs b1 b2 b3 b4 b5 b6 : Nat) : Prop where
  hs : Blk W bs 121 (gstC ⟨#[111, 110, 101]⟩ 1 b1 b2 b3 ++ gstC ⟨#[116, 119, 111]⟩ 2 b4 b5 b6)
  h1 : Blk W b1 165 (winC 1074790400)
  h2 : Blk W b2 167 (irqC 32 0)
  h3 : Blk W b3 51 #[.int .u32 ((0 : Nat) : Int)]
  h4 : Blk W b4 165 (winC 1075838976)
  h5 : Blk W b5 167 (irqC 33 1)
  h6 : Blk W b6 51 #[.int .u32 ((1 : Nat) : Int)]
  gs : B ≤ bs
  g1 : B ≤ b1
  g2 : B ≤ b2
  g3 : B ≤ b3
  g4 : B ≤ b4
  g5 : B ≤ b5
  g6 : B ≤ b6
theorem GsB.chg {B : Nat} {W W' : World} {bs b1 b2 b3 b4 b5 b6 : Nat} {Z : Nat → Prop} (h : GsB B W bs b1 b2 b3 b4 b5 b6) (c : Chg Z W W') (hZ : ∀ b, Z b → b < B) : GsB B W' bs b1 b2 b3 b4 b5 b6 := by
  obtain ⟨a1, a2, a3, a4, a5, a6, a7, c1, c2, c3, c4, c5, c6, c7⟩ := h
  have hz : ∀ b, B ≤ b → ¬ Z b := fun b h hb => by have := hZ b hb; omega
  exact ⟨a1.chg c (hz _ c1), a2.chg c (hz _ c2), a3.chg c (hz _ c3), a4.chg c (hz _ c4), a5.chg c (hz _ c5), a6.chg c (hz _ c6), a7.chg c (hz _ c7), c1, c2, c3, c4, c5, c6, c7⟩
theorem GsB.mono {B B' : Nat} {W : World} {bs b1 b2 b3 b4 b5 b6 : Nat} (h : GsB B W bs b1 b2 b3 b4 b5 b6) (hB : B' ≤ B) : GsB B' W bs b1 b2 b3 b4 b5 b6 := by
  obtain ⟨a1, a2, a3, a4, a5, a6, a7, c1, c2, c3, c4, c5, c6, c7⟩ := h
  exact ⟨a1, a2, a3, a4, a5, a6, a7, by omega, by omega, by omega, by omega, by omega, by omega, by omega⟩
theorem results_cellSS {P : Program} {fn : Func} {p q : Tmp} {ty ty2 : TypeId} (h : fn.results = #[.cell p ty, .cell q ty2]) (tmps : Array Value) (w : World) (g g2 : Nat) (t t2 : TypeId) (cs cs2 : Array Value) (fr fr2 : Nat × Nat) (d d2 : TypeDesc)
    (hp : tmps.getD p undef = .pointer (some ⟨g, 0, none⟩)) (hq : tmps.getD q undef = .pointer (some ⟨g2, 0, none⟩)) (hg : w.heap[g]? = some (.cells cs t fr)) (hg2 : w.heap[g2]? = some (.cells cs2 t2 fr2))
    (hu : P.underlying ty = some d) (hd : (match d with | .struct _ | .array _ _ => true | _ => false) = true) (hi : (P.info? ty).map (·.size) = some cs.size)
    (hu2 : P.underlying ty2 = some d2) (hd2 : (match d2 with | .struct _ | .array _ _ => true | _ => false) = true) (hi2 : (P.info? ty2).map (·.size) = some cs2.size) :
    (results fn tmps).run P w = .ok (.tuple #[.agg cs, .agg cs2]) w := by
  have hp' : tmps[p]?.getD undef = .pointer (some ⟨g, 0, none⟩) := by simpa using hp
  have hq' : tmps[q]?.getD undef = .pointer (some ⟨g2, 0, none⟩) := by simpa using hq
  simp [results, h, hp', hq', asAddr, run_loadVar_row w g t ty cs fr d hg hu hd hi, run_loadVar_row w g2 t2 ty2 cs2 fr2 d2 hg2 hu2 hd2 hi2]
theorem rangeA {W : World} {b : Nat} {t : TypeId} {x y : Array Value} (h : Blk W b t (x ++ y)) : W.rangeAt b 0 x.toList := by
  intro j v hv
  rw [Nat.zero_add, h.cell]
  have hj : j < x.size := by have := (List.getElem?_eq_some_iff.1 hv).1; simpa using this
  rw [Array.getElem?_append_left hj]; simpa using hv
theorem rangeB {W : World} {b k : Nat} {t : TypeId} {x y : Array Value} (h : Blk W b t (x ++ y)) (hk : x.size = k) : W.rangeAt b k y.toList := by
  intro j v hv
  rw [h.cell, Array.getElem?_append_right (by omega), ← hk, Nat.add_sub_cancel_left]; simpa using hv
theorem zGst (W : World) : (zeroValue 121).run Tryz.prog W = .ok (.agg Tryz.zeroCells121) W := by kernel_rfl
/-- a guest's cells, not told but by what they are -/
structure GC (gc : Array Value) (nm : ByteArray) (cm b1 b2 b3 : Nat) : Prop where
  c0 : gc[0]? = some (.string nm)
  c1 : gc[1]? = some (.bool false)
  c2 : gc[2]? = some (.int .u32 0)
  c3 : gc[3]? = some (.int .u32 0)
  c4 : gc[4]? = some (.int .u32 (cm : Int))
  c5 : gc[5]? = some (.int .u64 4096)
  c6 : gc[6]? = some (.int .u64 0)
  c75 : gc[75]? = some (.slice (some ⟨b1, 0, none⟩) 1 1)
  c76 : gc[76]? = some (.slice none 0 0)
  c77 : gc[77]? = some (.slice (some ⟨b2, 0, none⟩) 1 1)
  c78 : gc[78]? = some (.slice (some ⟨b3, 0, none⟩) 1 1)
  key : (gc.toList.drop 7).take 68 = keyA.toList
  size : gc.size = 79
  zs : gc.size = (Tryz.zeroCells121).size
  one : ∀ v ∈ gc.toList, v.oneCell' = true
  inf : (Tryz.prog.info? 121).map (·.size) = some gc.size
theorem GC.of (nm : ByteArray) (cm b1 b2 b3 : Nat) : GC (gstC nm cm b1 b2 b3) nm cm b1 b2 b3 :=
  ⟨by kernel_rfl, by kernel_rfl, by kernel_rfl, by kernel_rfl, by kernel_rfl, by kernel_rfl, by kernel_rfl, by kernel_rfl, by kernel_rfl, by kernel_rfl, by kernel_rfl, by kernel_rfl, by kernel_rfl, by kernel_rfl, gst_one _ _ _ _ _, infGst _ _ _ _ _⟩
theorem GC.infl {gc : Array Value} {nm : ByteArray} {cm b1 b2 b3 : Nat} (h : GC gc nm cm b1 b2 b3) : (Tryz.prog.info? 121).map (·.size) = some gc.toList.length := by rw [h.inf, Array.length_toList]
theorem elGst : Elem Tryz.prog 52 121 (.agg Tryz.zeroCells121) 79 216 := Elem.of (by kernel_rfl) (by kernel_rfl) rfl (by omega)
theorem elCh : Elem Tryz.prog 53 115 (.agg #[.int .u64 0, .int .u64 0, .int .i64 0, .int .i64 0, .int .u64 0, .int .i64 0, .int .i64 0, .int .u64 0]) 8 64 := Elem.of (by kernel_rfl) (by kernel_rfl) rfl (by omega)
theorem run_chans (w : World) : (Instr.buildSlice 53 1 #[(0, .agg chC)]).run Tryz.prog w = .ok (.slice (some ⟨w.heap.size, 0, none⟩) 1 1) (w.alloc (.cells chC 115)) := by
  have := run_buildSlice_all (P := Tryz.prog) w elCh 1 #[(0, .agg chC)] [.agg chC] rfl rfl (by omega) (by omega) (by intro v hv; rw [List.mem_singleton.1 hv]; rfl)
  simpa [flat, Value.cells, chC] using this
theorem run_cfg (w : World) (bs bc : Nat) : (Instr.build 55 #[(0, .int .u32 1), (1, .slice (some ⟨bs, 0, none⟩) 2 2), (2, .slice (some ⟨bc, 0, none⟩) 1 1)]).run Tryz.prog w = .ok (.agg (cfgC bs bc)) w := by kernel_rfl
theorem run_guests (w : World) (b1 b2 b3 b4 b5 b6 : Nat) : (Instr.buildSlice 52 2 #[(0, .agg (gstC ⟨#[111, 110, 101]⟩ 1 b1 b2 b3)), (1, .agg (gstC ⟨#[116, 119, 111]⟩ 2 b4 b5 b6))]).run Tryz.prog w = .ok (.slice (some ⟨w.heap.size, 0, none⟩) 2 2) (w.alloc (.cells (gstC ⟨#[111, 110, 101]⟩ 1 b1 b2 b3 ++ gstC ⟨#[116, 119, 111]⟩ 2 b4 b5 b6) 121)) := by
  have := run_buildSlice_all (P := Tryz.prog) w elGst 2 #[(0, .agg (gstC ⟨#[111, 110, 101]⟩ 1 b1 b2 b3)), (1, .agg (gstC ⟨#[116, 119, 111]⟩ 2 b4 b5 b6))] [.agg (gstC ⟨#[111, 110, 101]⟩ 1 b1 b2 b3), .agg (gstC ⟨#[116, 119, 111]⟩ 2 b4 b5 b6)] rfl rfl (by omega) (by omega) (by intro v hv; simp only [List.mem_cons, List.not_mem_nil, or_false] at hv; rcases hv with rfl | rfl <;> rfl)
  have e : (flat [.agg (gstC ⟨#[111, 110, 101]⟩ 1 b1 b2 b3), .agg (gstC ⟨#[116, 119, 111]⟩ 2 b4 b5 b6)]).toArray = gstC ⟨#[111, 110, 101]⟩ 1 b1 b2 b3 ++ gstC ⟨#[116, 119, 111]⟩ 2 b4 b5 b6 := by simp [flat, Value.cells]
  rw [e] at this
  exact this
theorem zBd (W : World) : (zeroValue 50).run Tryz.prog W = .ok (.agg cz4) W := by kernel_rfl
theorem zCf (W : World) : (zeroValue 55).run Tryz.prog W = .ok (.agg cz5) W := by kernel_rfl
theorem zCh (W : World) : (zeroValue 115).run Tryz.prog W = .ok (.agg #[.int .u64 0, .int .u64 0, .int .i64 0, .int .i64 0, .int .u64 0, .int .i64 0, .int .i64 0, .int .u64 0]) W := by kernel_rfl
theorem zEn (W : World) : (zeroValue 112).run Tryz.prog W = .ok (.agg #[.int .i64 0, .int .i64 0, .int .u64 0]) W := by kernel_rfl
def chEn (g p a : Nat) : Array Value := #[.int .i64 (g : Int), .int .i64 (p : Int), .int .u64 (a : Int)]
def ensC : Array Value := #[.int .i64 0, .int .i64 3, .int .u64 268435456, .int .i64 1, .int .i64 1, .int .u64 536870912]
theorem ix_en0 (W : World) : (Instr.index 113 (.agg ensC) (.int .i64 0)).run Tryz.prog W = .ok (.agg (chEn 0 3 268435456)) W := by kernel_rfl
theorem ix_en1 (W : World) : (Instr.index 113 (.agg ensC) (.int .i64 1)).run Tryz.prog W = .ok (.agg (chEn 1 1 536870912)) W := by kernel_rfl
theorem infEn {g p a : Nat} : (Tryz.prog.info? 112).map (·.size) = some (chEn g p a).size := by kernel_rfl
theorem infEns : (Tryz.prog.info? 113).map (·.size) = some ensC.toList.length := by kernel_rfl
theorem en_one (g p a : Nat) : ∀ v ∈ (chEn g p a).toList, v.oneCell' = true := by
  intro v hv
  simp only [chEn, List.mem_cons, List.not_mem_nil, or_false] at hv
  rcases hv with rfl | rfl | rfl <;> rfl
theorem ch_ens {W : World} {b : Nat} {t : TypeId} (h : Blk W b t chC) : W.rangeAt b 2 ensC.toList := by
  intro j v hv
  rw [h.cell]
  match j, hv with
  | 0, hv => exact hv
  | 1, hv => exact hv
  | 2, hv => exact hv
  | 3, hv => exact hv
  | 4, hv => exact hv
  | 5, hv => exact hv
theorem run_bd (W : World) : (Instr.build 50 #[(0, .agg #[.int .u64 1073741824, .int .u64 134217728]), (1, .agg #[.int .u64 1073741824, .int .u64 1048576]), (2, .int .i64 64), (3, .int .i64 8), (4, .int .i64 4)]).run Tryz.prog W = .ok (.agg bdC) W := by kernel_rfl
theorem run_sp1 (W : World) : (Instr.build 25 #[(0, .int .u64 1073741824), (1, .int .u64 134217728)]).run Tryz.prog W = .ok (.agg #[.int .u64 1073741824, .int .u64 134217728]) W := by kernel_rfl
theorem run_sp2 (W : World) : (Instr.build 25 #[(0, .int .u64 1073741824), (1, .int .u64 1048576)]).run Tryz.prog W = .ok (.agg #[.int .u64 1073741824, .int .u64 1048576]) W := by kernel_rfl
theorem run_en1 (W : World) : (Instr.build 112 #[(0, .int .i64 0), (1, .int .i64 3), (2, .int .u64 268435456)]).run Tryz.prog W = .ok (.agg #[.int .i64 0, .int .i64 3, .int .u64 268435456]) W := by kernel_rfl
theorem run_en2 (W : World) : (Instr.build 112 #[(0, .int .i64 1), (1, .int .i64 1), (2, .int .u64 536870912)]).run Tryz.prog W = .ok (.agg #[.int .i64 1, .int .i64 1, .int .u64 536870912]) W := by kernel_rfl
theorem run_ens (W : World) : (Instr.build 113 #[(0, .agg #[.int .i64 0, .int .i64 3, .int .u64 268435456]), (1, .agg #[.int .i64 1, .int .i64 1, .int .u64 536870912])]).run Tryz.prog W = .ok (.agg #[.int .i64 0, .int .i64 3, .int .u64 268435456, .int .i64 1, .int .i64 1, .int .u64 536870912]) W := by kernel_rfl
theorem run_ch (W : World) : (Instr.build 115 #[(0, .int .u64 1107296256), (1, .int .u64 4096), (2, .agg #[.int .i64 0, .int .i64 3, .int .u64 268435456, .int .i64 1, .int .i64 1, .int .u64 536870912])]).run Tryz.prog W = .ok (.agg chC) W := by kernel_rfl
set_option maxRecDepth 100000 in
set_option maxHeartbeats 4000000 in
theorem small17_any (w : World) : Calls Tryz.prog 13 #[.int .u64 1, .agg keyA] w fun e w' => ∃ bs bc b1 b2 b3 b4 b5 b6, e = .returned (.tuple #[.agg bdC, .agg (cfgC bs bc)]) ∧ GsB w.heap.size w' bs b1 b2 b3 b4 b5 b6 ∧ Blk w' bc 115 chC ∧ w.heap.size ≤ bc ∧ Below w.heap.size w w' := by
  obtain ⟨ka, hka⟩ : ∃ ka, ka = keyA := ⟨_, rfl⟩
  rw [← hka]
  go_enter Tryz.func13, Tryz.ntmps13
  go_wp2_with (first
    | ((with_reducible refine at_box 58 ?_); refine wpList_boxO w rfl rfl ka rfl ?_; intro V1 BK hE1 hBKl hBK)
    | ((with_reducible refine at_alloc 50 ?_); refine wpList_allocO V3 rfl rfl (.agg cz4) zBd ?_; intro V4 BB hE4 hBBl hBB0)
    | ((with_reducible refine at_alloc 50 ?_); refine wpList_allocO V1 rfl rfl (.agg cz4) zBd ?_; intro V2 B4 hE2 hB4l hB4)
    | ((with_reducible refine at_alloc 55 ?_); refine wpList_allocO V2 rfl rfl (.agg cz5) zCf ?_; intro V3 B5 hE3 hB5l hB5)
    | ((with_reducible refine at_alloc 115 ?_); refine wpList_allocO V5 rfl rfl _ zCh ?_; intro V6 BC hE6 hBCl hBC0)
    | ((with_reducible refine at_build 25 ?_); refine wpList_runV rfl (Flow.reg_build _ rfl rfl (run_sp1 _)) ?_)
    | ((with_reducible refine at_build 25 ?_); refine wpList_runV rfl (Flow.reg_build _ rfl rfl (run_sp2 _)) ?_)
    | ((with_reducible refine at_build 112 ?_); refine wpList_runV rfl (Flow.reg_build _ rfl rfl (run_en1 _)) ?_)
    | ((with_reducible refine at_build 112 ?_); refine wpList_runV rfl (Flow.reg_build _ rfl rfl (run_en2 _)) ?_)
    | ((with_reducible refine at_build 113 ?_); refine wpList_runV rfl (Flow.reg_build _ rfl rfl (run_ens _)) ?_)
    | ((with_reducible refine at_build 115 ?_); refine wpList_runV rfl (Flow.reg_build _ rfl rfl (run_ch _)) ?_)
    | ((with_reducible refine at_build 50 ?_); refine wpList_runV rfl (Flow.reg_build _ rfl rfl (run_bd _)) ?_)
    | ((with_reducible refine at_store 50 ?_); refine wpList_storeAll V4 rfl 50 _ _ rfl BB 50 _ bdC hBB0 rfl rfl cz4s infBd bd_one ?_; intro V5 hBB hg5 hs5)
    | ((with_reducible refine at_store 115 ?_); refine wpList_storeAll V6 rfl 115 _ _ rfl BC 115 _ chC hBC0 rfl rfl rfl infCh ch_one ?_; intro V7 hBC hg7 hs7))
  subst hka
  have hE5 : Ext V3 V5 := grown_below hE4 hg5 hE4.size hBBl
  have hE7 : Ext V5 V7 := grown_below hE6 hg7 hE6.size hBCl
  have i1 := hBK.lt
  have i2 := hB4.lt
  have i3 := hB5.lt
  have i4 := hBB.lt
  have i5 := hBC.lt
  have j1 := hE1.size
  have j2 := hE2.size
  have j3 := hE3.size
  have j5 := hE5.size
  have j7 := hE7.size
  have hBK := hBK.ext (((hE2.trans hE3).trans hE5).trans hE7)
  have hB4 := hB4.ext ((hE3.trans hE5).trans hE7)
  have hB5 := hB5.ext (hE5.trans hE7)
  have hBB := hBB.ext hE7
  have hs1 : w.heap.size ≤ V7.heap.size := by omega
  have hEw : Ext w V7 := (((hE1.trans hE2).trans hE3).trans hE5).trans hE7
  clear hBB0 hBC0 hg5 hs5 hg7 hs7 hE1 hE2 hE3 hE4 hE5 hE6 hE7
  simp only [Act.put, List.setIfInBounds_toArray, List.set_cons_succ, List.set_cons_zero]
  refine Flow.wp_region_flow (w.heap.size) [(9, fun b => b = B4), (10, fun b => b = B5)] [(0, fun W => Blk W (BB) 50 bdC), (1, fun W => Blk W (BK) 58 keyA), (3, fun W => Blk W (BK) 58 keyA), (6, fun W => Blk W (BC) 115 chC), (9, fun W => Blk W B4 50 cz4), (10, fun W => Blk W B5 55 cz5)] (by kernel_rfl) (by kernel_rfl) hs1 (Flow.nz_cons (by rintro b rfl; omega) (Flow.nz_cons (by rintro b rfl; omega) Flow.nz_nil)) (Flow.facts_cons (hBB.drew) (Flow.kept_blk id) (Flow.fz_cons (Flow.no_follow (by kernel_rfl)) (Flow.fz_cons (Flow.no_follow (by kernel_rfl)) Flow.fz_nil)) (Flow.facts_cons (hBK.drew) (Flow.kept_blk id) (Flow.fz_cons (Flow.no_follow (by kernel_rfl)) (Flow.fz_cons (Flow.no_follow (by kernel_rfl)) Flow.fz_nil)) (Flow.facts_cons (hBK.drew) (Flow.kept_blk id) (Flow.fz_cons (Flow.no_follow (by kernel_rfl)) (Flow.fz_cons (Flow.no_follow (by kernel_rfl)) Flow.fz_nil)) (Flow.facts_cons (hBC.drew) (Flow.kept_blk id) (Flow.fz_cons (fun _ => Flow.kept_blk (by first | assumption | (show ¬ _ = _; first | assumption | omega | (simp; omega)) | (show ¬ (_ ≤ _); omega))) (Flow.fz_cons (Flow.no_follow (by kernel_rfl)) Flow.fz_nil)) (Flow.facts_cons (hB4.drew) (Flow.kept_blk id) (Flow.fz_cons (Flow.no_follow (by kernel_rfl)) (Flow.fz_cons (Flow.no_follow (by kernel_rfl)) Flow.fz_nil)) (Flow.facts_cons (hB5.drew) (Flow.kept_blk id) (Flow.fz_cons (fun _ => Flow.kept_blk (by first | assumption | (show ¬ _ = _; first | assumption | omega | (simp; omega)) | (show ¬ (_ ≤ _); omega))) (Flow.fz_cons (Flow.no_follow (by kernel_rfl)) Flow.fz_nil)) Flow.facts_nil))))))  ?_
  refine Flow.pass_val (.agg bdC) (Flow.met_none rfl) (fun a W hH => ?_) ?_
  · have e0 := Flow.see_old 6 hH.sees (by kernel_rfl) (by kernel_rfl) rfl
    have fa0 : (fun W => Blk W (BB) 50 bdC) W := hH.fact _ (List.mem_of_getElem? (i := 0) rfl) rfl
    exact reg_load 50 _ rfl e0 fa0 Tryz.underlying50 rfl infBd
  refine Flow.pass_val (.agg keyA) (Flow.met_none rfl) (fun a W hH => ?_) ?_
  · have e0 := Flow.see_old 3 hH.sees (by kernel_rfl) (by kernel_rfl) rfl
    have fa1 : (fun W => Blk W (BK) 58 keyA) W := hH.fact _ (List.mem_of_getElem? (i := 1) rfl) rfl
    exact reg_load 58 _ rfl e0 fa1 Tryz.underlying58 rfl infKey
  refine Flow.pass_step (fun v W => ∃ b1 b2 b3, v = .agg (gstC ⟨#[111, 110, 101]⟩ 1 b1 b2 b3) ∧ (Blk W b1 165 (winC 1074790400) ∧ Blk W b2 167 (irqC 32 0) ∧ Blk W b3 51 #[.int .u32 ((0 : Nat) : Int)] ∧ V7.heap.size ≤ b1 ∧ V7.heap.size ≤ b2 ∧ V7.heap.size ≤ b3)) (Flow.kept_of (fun _ _ _ c ⟨b1, b2, b3, h1, h2, h3, h4, h5, h6, h7⟩ => ⟨b1, b2, b3, h1, h2.chg c id, h3.chg c id, h4.chg c id, h5, h6, h7⟩) (Flow.kz_cons (fun _ => fun _ _ _ c ⟨b1, b2, b3, h1, h2, h3, h4, h5, h6, h7⟩ => ⟨b1, b2, b3, h1, h2.chg c (by first | assumption | (show ¬ _ = _; first | assumption | omega | (simp; omega)) | (show ¬ (_ ≤ _); omega)), h3.chg c (by first | assumption | (show ¬ _ = _; first | assumption | omega | (simp; omega)) | (show ¬ (_ ≤ _); omega)), h4.chg c (by first | assumption | (show ¬ _ = _; first | assumption | omega | (simp; omega)) | (show ¬ (_ ≤ _); omega)), h5, h6, h7⟩) (Flow.kz_cons (fun _ => fun _ _ _ c ⟨b1, b2, b3, h1, h2, h3, h4, h5, h6, h7⟩ => ⟨b1, b2, b3, h1, h2.chg c (by first | assumption | (show ¬ _ = _; first | assumption | omega | (simp; omega)) | (show ¬ (_ ≤ _); omega)), h3.chg c (by first | assumption | (show ¬ _ = _; first | assumption | omega | (simp; omega)) | (show ¬ (_ ≤ _); omega)), h4.chg c (by first | assumption | (show ¬ _ = _; first | assumption | omega | (simp; omega)) | (show ¬ (_ ≤ _); omega)), h5, h6, h7⟩) Flow.kz_nil))) (Flow.met_none rfl) (fun a W hH => ?_) ?_
  · have e0 := Flow.see_new 18 1 hH.sees (by kernel_rfl) (by kernel_rfl) rfl rfl
    have hWs : V7.heap.size ≤ W.heap.size := hH.below.size
    refine Reg.wp_call rfl Tryz.func34 rfl (by kernel_rfl) (by simp [Act.eval, e0]) (guest_any ⟨#[111, 110, 101]⟩ 0 1074790400 1 32 (by omega) rfl rfl W) ?_
    rintro e w' ⟨v, rfl, ⟨b1, b2, b3, rfl, g1, g2, g3, g4, g5, g6⟩, hB⟩
    exact ⟨_, rfl, _, rfl, hB, b1, b2, b3, rfl, g1, g2, g3, Nat.le_trans hWs g4, Nat.le_trans hWs g5, Nat.le_trans hWs g6⟩
  refine Flow.pass_val (.agg keyA) (Flow.met_none rfl) (fun a W hH => ?_) ?_
  · have e0 := Flow.see_old 3 hH.sees (by kernel_rfl) (by kernel_rfl) rfl
    have fa2 : (fun W => Blk W (BK) 58 keyA) W := hH.fact _ (List.mem_of_getElem? (i := 2) rfl) rfl
    exact reg_load 58 _ rfl e0 fa2 Tryz.underlying58 rfl infKey
  refine Flow.pass_step (fun v W => ∃ b1 b2 b3, v = .agg (gstC ⟨#[116, 119, 111]⟩ 2 b1 b2 b3) ∧ (Blk W b1 165 (winC 1075838976) ∧ Blk W b2 167 (irqC 33 1) ∧ Blk W b3 51 #[.int .u32 ((1 : Nat) : Int)] ∧ V7.heap.size ≤ b1 ∧ V7.heap.size ≤ b2 ∧ V7.heap.size ≤ b3)) (Flow.kept_of (fun _ _ _ c ⟨b1, b2, b3, h1, h2, h3, h4, h5, h6, h7⟩ => ⟨b1, b2, b3, h1, h2.chg c id, h3.chg c id, h4.chg c id, h5, h6, h7⟩) (Flow.kz_cons (fun _ => fun _ _ _ c ⟨b1, b2, b3, h1, h2, h3, h4, h5, h6, h7⟩ => ⟨b1, b2, b3, h1, h2.chg c (by first | assumption | (show ¬ _ = _; first | assumption | omega | (simp; omega)) | (show ¬ (_ ≤ _); omega)), h3.chg c (by first | assumption | (show ¬ _ = _; first | assumption | omega | (simp; omega)) | (show ¬ (_ ≤ _); omega)), h4.chg c (by first | assumption | (show ¬ _ = _; first | assumption | omega | (simp; omega)) | (show ¬ (_ ≤ _); omega)), h5, h6, h7⟩) (Flow.kz_cons (fun _ => fun _ _ _ c ⟨b1, b2, b3, h1, h2, h3, h4, h5, h6, h7⟩ => ⟨b1, b2, b3, h1, h2.chg c (by first | assumption | (show ¬ _ = _; first | assumption | omega | (simp; omega)) | (show ¬ (_ ≤ _); omega)), h3.chg c (by first | assumption | (show ¬ _ = _; first | assumption | omega | (simp; omega)) | (show ¬ (_ ≤ _); omega)), h4.chg c (by first | assumption | (show ¬ _ = _; first | assumption | omega | (simp; omega)) | (show ¬ (_ ≤ _); omega)), h5, h6, h7⟩) Flow.kz_nil))) (Flow.met_none rfl) (fun a W hH => ?_) ?_
  · have e0 := Flow.see_new 20 3 hH.sees (by kernel_rfl) (by kernel_rfl) rfl rfl
    have hWs : V7.heap.size ≤ W.heap.size := hH.below.size
    refine Reg.wp_call rfl Tryz.func34 rfl (by kernel_rfl) (by simp [Act.eval, e0]) (guest_any ⟨#[116, 119, 111]⟩ 1 1075838976 2 33 (by omega) rfl rfl W) ?_
    rintro e w' ⟨v, rfl, ⟨b1, b2, b3, rfl, g1, g2, g3, g4, g5, g6⟩, hB⟩
    exact ⟨_, rfl, _, rfl, hB, b1, b2, b3, rfl, g1, g2, g3, Nat.le_trans hWs g4, Nat.le_trans hWs g5, Nat.le_trans hWs g6⟩
  refine Flow.pass_gen (fun v W => ∃ bs b1 b2 b3 b4 b5 b6, v = .slice (some ⟨bs, 0, none⟩) 2 2 ∧ GsB V7.heap.size W bs b1 b2 b3 b4 b5 b6) (Flow.kept_of (fun _ _ _ c ⟨bs, b1, b2, b3, b4, b5, b6, h1, h2⟩ => ⟨bs, b1, b2, b3, b4, b5, b6, h1, h2.chg c (fun b hb => by first | exact hb.elim | (have hb : b = B4 := hb; omega) | (have hb : b = B5 := hb; omega))⟩) (Flow.kz_cons (fun _ => fun _ _ _ c ⟨bs, b1, b2, b3, b4, b5, b6, h1, h2⟩ => ⟨bs, b1, b2, b3, b4, b5, b6, h1, h2.chg c (fun b hb => by first | exact hb.elim | (have hb : b = B4 := hb; omega) | (have hb : b = B5 := hb; omega))⟩) (Flow.kz_cons (fun _ => fun _ _ _ c ⟨bs, b1, b2, b3, b4, b5, b6, h1, h2⟩ => ⟨bs, b1, b2, b3, b4, b5, b6, h1, h2.chg c (fun b hb => by first | exact hb.elim | (have hb : b = B4 := hb; omega) | (have hb : b = B5 := hb; omega))⟩) Flow.kz_nil))) (Flow.met_none rfl) (fun a W hH => ?_) ?_
  · obtain ⟨b0, d0, u0, e0, q0⟩ := Flow.see_up 19 2 hH.sees (by kernel_rfl) (by kernel_rfl) rfl rfl
    obtain ⟨b1, d1, u1, e1, q1⟩ := Flow.see_up 21 4 hH.sees (by kernel_rfl) (by kernel_rfl) rfl rfl
    refine Flow.wp_run (Flow.reg_buildSlice _ rfl (by simp [Act.eval, e0, e1]) (run_guests W b0 d0 u0 b1 d1 u1)) ?_
    have hE := (Ext.refl W).alloc (.cells (gstC ⟨#[111, 110, 101]⟩ 1 b0 d0 u0 ++ gstC ⟨#[116, 119, 111]⟩ 2 b1 d1 u1) 121)
    have hWs : V7.heap.size ≤ W.heap.size := hH.below.size
    obtain ⟨p1, p2, p3, p4, p5, p6⟩ := q0
    obtain ⟨r1, r2, r3, r4, r5, r6⟩ := q1
    exact ⟨_, rfl, Chg.of_ext hE, W.heap.size, b0, d0, u0, b1, d1, u1, rfl, ⟨Blk.new _ _ _, p1.ext hE, p2.ext hE, p3.ext hE, r1.ext hE, r2.ext hE, r3.ext hE, hWs, p4, p5, p6, r4, r5, r6⟩⟩
  refine Flow.pass_val (.agg chC) (Flow.met_none rfl) (fun a W hH => ?_) ?_
  · have e0 := Flow.see_old 7 hH.sees (by kernel_rfl) (by kernel_rfl) rfl
    have fa3 : (fun W => Blk W (BC) 115 chC) W := hH.fact _ (List.mem_of_getElem? (i := 3) rfl) rfl
    exact reg_load 115 _ rfl e0 fa3 Tryz.underlying115 rfl infCh
  refine Flow.pass_gen (fun v W => ∃ bc, v = .slice (some ⟨bc, 0, none⟩) 1 1 ∧ (Blk W bc 115 chC ∧ V7.heap.size ≤ bc)) (Flow.kept_of (fun _ _ _ c ⟨bc, h1, h2, h3⟩ => ⟨bc, h1, h2.chg c id, h3⟩) (Flow.kz_cons (fun _ => fun _ _ _ c ⟨bc, h1, h2, h3⟩ => ⟨bc, h1, h2.chg c (by first | assumption | (show ¬ _ = _; first | assumption | omega | (simp; omega)) | (show ¬ (_ ≤ _); omega)), h3⟩) (Flow.kz_cons (fun _ => fun _ _ _ c ⟨bc, h1, h2, h3⟩ => ⟨bc, h1, h2.chg c (by first | assumption | (show ¬ _ = _; first | assumption | omega | (simp; omega)) | (show ¬ (_ ≤ _); omega)), h3⟩) Flow.kz_nil))) (Flow.met_none rfl) (fun a W hH => ?_) ?_
  · have e0 := Flow.see_new 23 6 hH.sees (by kernel_rfl) (by kernel_rfl) rfl rfl
    refine Flow.wp_run (Flow.reg_buildSlice _ rfl (by simp [Act.eval, e0]) (run_chans W)) ?_
    exact ⟨_, rfl, Chg.of_ext ((Ext.refl W).alloc _), W.heap.size, rfl, Blk.new _ _ _, hH.below.size⟩
  refine Flow.pass_gen (fun v W => ∃ bs bc b1 b2 b3 b4 b5 b6, v = .agg (cfgC bs bc) ∧ (GsB V7.heap.size W bs b1 b2 b3 b4 b5 b6 ∧ Blk W bc 115 chC ∧ V7.heap.size ≤ bc)) (Flow.kept_of (fun _ _ _ c ⟨bs, bc, b1, b2, b3, b4, b5, b6, h1, h2, h3, h4⟩ => ⟨bs, bc, b1, b2, b3, b4, b5, b6, h1, h2.chg c (fun b hb => by first | exact hb.elim | (have hb : b = B4 := hb; omega) | (have hb : b = B5 := hb; omega)), h3.chg c id, h4⟩) (Flow.kz_cons (fun _ => fun _ _ _ c ⟨bs, bc, b1, b2, b3, b4, b5, b6, h1, h2, h3, h4⟩ => ⟨bs, bc, b1, b2, b3, b4, b5, b6, h1, h2.chg c (fun b hb => by first | exact hb.elim | (have hb : b = B4 := hb; omega) | (have hb : b = B5 := hb; omega)), h3.chg c (by first | assumption | (show ¬ _ = _; first | assumption | omega | (simp; omega)) | (show ¬ (_ ≤ _); omega)), h4⟩) (Flow.kz_cons (fun _ => fun _ _ _ c ⟨bs, bc, b1, b2, b3, b4, b5, b6, h1, h2, h3, h4⟩ => ⟨bs, bc, b1, b2, b3, b4, b5, b6, h1, h2.chg c (fun b hb => by first | exact hb.elim | (have hb : b = B4 := hb; omega) | (have hb : b = B5 := hb; omega)), h3.chg c (by first | assumption | (show ¬ _ = _; first | assumption | omega | (simp; omega)) | (show ¬ (_ ≤ _); omega)), h4⟩) Flow.kz_nil))) (Flow.met_none rfl) (fun a W hH => ?_) ?_
  · obtain ⟨a0, b0, d0, u0, k0, m0, n0, e0, q0⟩ := Flow.see_up 22 5 hH.sees (by kernel_rfl) (by kernel_rfl) rfl rfl
    obtain ⟨p1, e1, q1⟩ := Flow.see_up 24 7 hH.sees (by kernel_rfl) (by kernel_rfl) rfl rfl
    refine Flow.wp_run (Flow.reg_build _ rfl (by simp [Act.eval, e0, e1]) (run_cfg W a0 p1)) ?_
    exact ⟨_, rfl, Chg.refl _ _, a0, p1, b0, d0, u0, k0, m0, n0, rfl, q0, q1⟩
  refine Flow.pass_list (fun _ W => Blk W B4 50 bdC) (Flow.kept_of (fun _ _ _ c h => h.chg c id) (Flow.kz_cons (Flow.no_follow (by kernel_rfl)) (Flow.kz_cons (fun _ => fun _ _ _ c h => h.chg c (by first | assumption | (show ¬ _ = _; first | assumption | omega | (simp; omega)) | (show ¬ (_ ≤ _); omega))) Flow.kz_nil))) (Flow.met_none rfl) (fun a W hH => ?_) ?_
  · have e0 := Flow.see_old 4 hH.sees (by kernel_rfl) (by kernel_rfl) rfl
    have e1 := Flow.see_new 17 0 hH.sees (by kernel_rfl) (by kernel_rfl) rfl rfl
    have fa4 : (fun W => Blk W B4 50 cz4) W := hH.fact _ (List.mem_of_getElem? (i := 4) rfl) rfl
    refine wpList_storeAll W rfl 50 _ _ rfl B4 50 _ bdC fa4 (by simpa [Act.eval] using e0) (by simpa [Act.eval] using e1) cz4s infBd bd_one ?_
    intro W2 hb2 hg2 hs2
    exact Flow.qq_nil ⟨_, rfl, Chg.grown hg2 (by rintro k h; cases h; rfl), hb2⟩
  refine Flow.pass_list (fun _ W => ∃ bs bc b1 b2 b3 b4 b5 b6, Blk W B5 55 (cfgC bs bc) ∧ (GsB V7.heap.size W bs b1 b2 b3 b4 b5 b6 ∧ Blk W bc 115 chC ∧ V7.heap.size ≤ bc)) (Flow.kept_of (fun _ _ _ c ⟨bs, bc, b1, b2, b3, b4, b5, b6, h1, h2, h3, h4⟩ => ⟨bs, bc, b1, b2, b3, b4, b5, b6, h1.chg c id, h2.chg c (fun b hb => hb.elim), h3.chg c id, h4⟩) (Flow.kz_cons (Flow.no_follow (by kernel_rfl)) (Flow.kz_cons (Flow.no_follow (by kernel_rfl)) Flow.kz_nil))) (Flow.met_none rfl) (fun a W hH => ?_) ?_
  · have e0 := Flow.see_old 5 hH.sees (by kernel_rfl) (by kernel_rfl) rfl
    obtain ⟨a1, p1, b1, d1, u1, k1, m1, n1, e1, q1⟩ := Flow.see_up 25 8 hH.sees (by kernel_rfl) (by kernel_rfl) rfl rfl
    have fa5 : (fun W => Blk W B5 55 cz5) W := hH.fact _ (List.mem_of_getElem? (i := 5) rfl) rfl
    refine wpList_storeAll W rfl 55 _ _ rfl B5 55 _ (cfgC a1 p1) fa5 (by simpa [Act.eval] using e0) (by simpa [Act.eval] using e1) cz5s infCf (cf_one _ _) ?_
    intro W2 hb2 hg2 hs2
    obtain ⟨q2, q3, q4⟩ := q1
    have hC2 : Chg (fun b => b = B5) W W2 := Chg.grown hg2 (by rintro k h; cases h; rfl)
    exact Flow.qq_nil ⟨_, rfl, hC2, a1, p1, b1, d1, u1, k1, m1, n1, hb2, q2.chg hC2 (fun b hb => by have hb : b = B5 := hb; omega), q3.chg hC2 (by show ¬ _ = _; omega), q4⟩
  refine Flow.pass_end [none, none, none, none, none, none, none, none, none, none, none, none, none, none, none, none, none, some 17, some 18, some 19, some 20, some 21, some 22, some 23, some 24, some 25] (by kernel_rfl) ?_
  intro f gg w9 hB hfa hT hfg
  have h9 := hT 9 _ (by kernel_rfl) rfl
  obtain ⟨bs, bc, b1, b2, b3, b4, b5, b6, h10, hgs, hbc, hbcl⟩ := hT 10 _ (by kernel_rfl) rfl
  simp only [Reg.sel]
  clear hT hfg hfa
  go_wp2_with fail
  refine bodyPost_ret (results_cellSS (cs := bdC) (cs2 := cfgC bs bc) rfl _ _ B4 B5 _ _ _ _ _ _ rfl rfl h9 h10 Tryz.underlying50 rfl infBd Tryz.underlying55 rfl infCf) rfl ?_
  exact ⟨bs, bc, b1, b2, b3, b4, b5, b6, rfl, hgs.mono hs1, hbc, by omega, (Below.trans hEw ((Below.refl w.heap.size V7).drew.trans hB))⟩
end Go.Proofs.YtpellkblaeeopaaGreatDoor
