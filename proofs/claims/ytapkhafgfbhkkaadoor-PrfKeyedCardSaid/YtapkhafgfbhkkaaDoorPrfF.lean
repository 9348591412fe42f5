/-
  Walks: portreeveref03.Cat; the statement PrfKeyed.
-/
import Derived.Test.YtapkhafgfbhkkaaDoorPrfE
namespace Go.Proofs.YtapkhafgfbhkkaaDoor
open Go.RowKit Sha

set_option maxHeartbeats 1000000 in
theorem rcat_any (A : Option Addr) (m c : Nat) (ps : List Bs) (w : World) (hRd : Rd w w.heap.size 1 A m (ps.map Bs.val)) (hp : ∀ b ∈ ps, b.ok w w.heap.size) (ht : Bs.tot ps ≤ 1000000) (hm : m ≤ 1000000) :
    Calls Tryd.prog 16 #[.slice A m c] w fun e w' => ∃ A' c', e = .returned (.slice A' (Bs.tot ps) c') ∧ w'.ownsRow w.heap.size 5 1 (.slice A' (Bs.tot ps) c') (Bs.tot ps) (bcells (Bs.all ps)) ∧ Below w.heap.size w w' := by
  have hlen : ps.length = m := by have := hRd.len; simpa using this
  have HL := Lib.hid hlen; clear hlen
  go_enter Tryd.func16, Tryd.ntmps16
  go_wp2_with fail
  go_loopw [3, 8] (fun o i wr => ∃ j : Nat, j ≤ m ∧ i = .int .i64 j ∧ ∃ A' c', o = .slice A' (Bs.tot (ps.take j)) c' ∧
    wr.ownsRow w.heap.size 5 1 (.slice A' (Bs.tot (ps.take j)) c') (Bs.tot (ps.take j)) (bcells (Bs.all (ps.take j))) ∧ Below w.heap.size w wr) (fun _ i _ => m - (intOf i).toNat)
  case atStart => exact ⟨0, Nat.zero_le _, rfl, _, _, rfl, own_nil _ _ _ _, Below.refl _ _⟩
  case round =>
    obtain ⟨j, hj, rfl, A1, c1', rfl, hO2, hB2⟩ := hrel
    by_cases hjt : j < m
    · obtain ⟨a, rfl, hab, hcs⟩ := (hRd.below hB2).cells (by omega)
      have hkl : j < ps.length := by rw [HL.out]; exact hjt
      obtain ⟨b, hb⟩ : ∃ b, ps[j]? = some b := ⟨_, List.getElem?_eq_getElem hkl⟩
      have c1 : wr.cell? (a.add j) = some (.slice b.A b.n b.c) := hcs j _ (by rw [List.getElem?_map, hb]; rfl)
      have hbok : b.ok wr w.heap.size := (hp b (List.mem_of_getElem? hb)).below hB2
      have ht1 := Bs.tot_take ps j b hb
      have ha1 := Bs.all_take ps j b hb
      have ht2 := Bs.tot_le ps (j + 1)
      have ht3 : Bs.tot (ps.take j) + b.n ≤ Bs.tot ps := by omega
      have H1 := Lib.hid ht1
      have H2 := Lib.hid ha1
      clear ht1 ha1 hb hcs hRd ht2
      go_wp2_with (at_builtin; refine wpList_app wr el8 rfl _ _ rfl w.heap.size A1 _ c1' _ rfl hO2 _ b.A b.n b.c _ rfl hbok (bcells_one b.l) (by omega) (by omega) (by have := hB2.size; omega) ?_; intro A3 c3 w3 hO3 hg3 hB3 _)
      go_roundw
      case rel =>
        have hO4 : w3.ownsRow w.heap.size 5 1 (.slice A3 (Bs.tot (ps.take (j + 1))) c3) (Bs.tot (ps.take (j + 1))) (bcells (Bs.all (ps.take (j + 1)))) := by
          rw [H1.out, H2.out, bcells_append]; exact hO3
        have hj1 : j + 1 ≤ m := hjt
        have hB4 := hB2.trans hB3
        have e1 : Value.slice A3 (Bs.tot (ps.take j) + b.n) c3 = .slice A3 (Bs.tot (ps.take (j + 1))) c3 := by rw [H1.out]
        first
          | exact ⟨j + 1, hj1, by go_num, A3, c3, e1, hO4, hB4⟩
          | ((repeat apply Exists.intro); refine ⟨?_, rfl⟩; exact ⟨j + 1, hj1, by go_num, A3, c3, e1, hO4, hB4⟩)
      case measure => simp [intOf]; omega
    · obtain rfl : j = m := by omega
      have hall : ps.take j = ps := List.take_of_length_le (by rw [HL.out]; omega)
      rw [hall] at hO2
      have HA := Lib.hid hall
      rw [hall]
      clear hall
      go_wp2
      go_ret
      exact ⟨A1, c1', rfl, hO2, hB2⟩

theorem tot_small (ps : List Bs) (h : ∀ b ∈ ps, b.n ≤ 300) : Bs.tot ps ≤ 300 * ps.length := by
  induction ps with
  | nil => simp [Bs.tot]
  | cons b l ih =>
    have h1 := h b (by simp)
    have h2 := ih fun x hx => h x (by simp [hx])
    simp only [Bs.tot, List.map_cons, List.sum_cons, List.length_cons] at *
    omega

set_option maxRecDepth 100000 in
set_option maxHeartbeats 2000000 in
theorem prfKeyed_walk (w : World) (hT : Tabs w) (kind : Int) (wk : (Lit.int .u32 kind).wf = true) (A : Option Addr) (m c : Nat) (ps : List Bs) (hRd : Rd w w.heap.size 1 A m (ps.map Bs.val)) (hp : ∀ b ∈ ps, b.ok w w.heap.size) (hcc : ∀ b ∈ ps, b.n ≤ b.c ∧ b.c ≤ 9223372036854775807) :
    Calls Tryd.prog 3 #[.int .u32 kind, .slice A m c] w fun e w' => e = .returned (.bool true) ∧ Below w.heap.size w w' := by
  obtain ⟨kd, hkd, rfl⟩ : ∃ n : Nat, n < 4294967296 ∧ kind = n := by
    simp [Lit.wf, IntKind.min, IntKind.max, IntKind.bits, IntKind.signed] at wk
    exact ⟨kind.toNat, by omega, by omega⟩
  have HKD := Lib.hid hkd
  have hlen : ps.length = m := by have := hRd.len; simpa using this
  have HL := Lib.hid hlen
  clear wk hkd hlen
  by_cases hm : m ≤ 10
  · have hm' : (m : Int) ≤ 10 := by omega
    go_enter Tryd.func3, Tryd.ntmps3
    go_wp2_with fail
    refine (awake05 w hT).mono ?_
    rintro e W1 ⟨rfl, hB1⟩
    have hR1 := hRd.below hB1
    have hT1 := hT.below hB1
    have hp1 : ∀ b ∈ ps, b.ok W1 W1.heap.size := fun b hb => Rd.more ((hp b hb).below hB1) hB1.size
    clear hT hRd hp
    go_wp2_with fail
    go_loop [14] (fun i => ∃ k : Nat, k ≤ m ∧ i = .int .i64 k ∧ Hid (∀ b ∈ ps.take k, b.n ≤ 300)) (fun i => m - (intOf i).toNat)
    case atStart => exact ⟨0, Nat.zero_le _, rfl, Lib.hid (fun b hb => by simp at hb)⟩
    case round =>
      obtain ⟨k, hk, rfl, hsm⟩ := hrel
      by_cases hlt : k < m
      · obtain ⟨a, rfl, hab, hcs⟩ := hR1.cells (by omega)
        have hkl : k < ps.length := by rw [HL.out]; exact hlt
        obtain ⟨b, hb⟩ : ∃ b, ps[k]? = some b := ⟨_, List.getElem?_eq_getElem hkl⟩
        have c1 : W1.cell? (a.add k) = some (.slice b.A b.n b.c) := hcs k _ (by rw [List.getElem?_map, hb]; rfl)
        have Hb := Lib.hid hb
        clear hcs hb
        by_cases h3 : b.n ≤ 300
        · have h3' : (b.n : Int) ≤ 300 := by omega
          have hsm2 : Hid (∀ x ∈ ps.take (k + 1), x.n ≤ 300) := Lib.hid (fun x hx => by
            rw [List.take_succ_eq_append_getElem hkl, List.mem_append] at hx
            rcases hx with hx | hx
            · exact hsm.out x hx
            · have := Hb.out
              rw [List.getElem?_eq_getElem hkl] at this
              cases this
              rw [List.mem_singleton.1 hx]; exact h3)
          go_wp2_with fail
          go_round
          case rel => exact ⟨k + 1, by omega, by go_num, hsm2⟩
          case measure => simp [intOf]; omega
        · have h3' : (300 : Int) < (b.n : Int) := by omega
          go_wp2_with fail
          go_ret
          exact ⟨rfl, hB1⟩
      · obtain rfl : k = m := by omega
        have hall : ps.take k = ps := List.take_of_length_le (by rw [HL.out]; omega)
        have hsm3 := hsm.out
        rw [hall] at hsm3
        have ht := tot_small ps hsm3
        have hl10 := HL.out
        have ht2 : Bs.tot ps ≤ 3000 := by omega
        obtain ⟨S, hS⟩ : ∃ S, S = keyed kd (Bs.all ps) := ⟨_, rfl⟩
        have HS := Lib.hid hS
        have HSl : Hid (S.length = 32) := Lib.hid (by rw [hS]; exact keyed_length _ _)
        clear hall hsm3 hsm ht hl10 hS hlt
        go_wp2_with fail
        refine (mkeyed_any kd HKD.out A k c ps W1 (hR1.more hB1.size) hp1 hcc (by omega) (by omega) hT1).mono ?_
        rintro e W2 ⟨rfl, hB2⟩
        have hR2 := (hR1.more hB1.size).below hB2
        have hB12 := hB1.trans (hB2.mono hB1.size)
        have hs2 := hB2.size
        have hp2 : ∀ b ∈ ps, b.ok W2 W2.heap.size := fun b hb => Rd.more ((hp1 b hb).below hB2) hB2.size
        rw [← HS.out]
        clear hR1 hp1 hT1 hB1 hB2
        go_wp2_with fail
        refine (rcat_any A k c ps W2 (hR2.more hs2) hp2 (by omega) (by omega)).mono ?_
        rintro e W3 ⟨A4, c4, rfl, hO4, hB3⟩
        have hR4 := Rd.of_own hO4
        have hB13 := hB12.trans (hB3.mono (by have := hB12.size; omega))
        clear hO4 hR2 hp2 hB12 hB3 hs2
        go_wp2_with fail
        refine (rkeyed_any kd HKD.out A4 (Bs.tot ps) c4 (Bs.all ps) W3 hR4 (by omega)).mono ?_
        rintro e W4 ⟨rfl, hB4⟩
        have hB14 := hB13.trans (hB4.mono hB13.size)
        rw [← HS.out]
        clear hR4 hB13 hB4
        go_wp2_with ((with_reducible refine at_binT 27 ?_); refine wpList_eql _ rfl rfl (xs := (bcells S).toArray) (ys := (bcells S).toArray) rfl rfl nodeGuard (nodeEq S S HSl.out HSl.out _) ?_; rw [beq_self_eq_true])
        go_ret
        exact ⟨rfl, hB14⟩
  · have hm' : (10 : Int) < (m : Int) := by omega
    go_enter Tryd.func3, Tryd.ntmps3
    go_wp2_with fail
    refine (awake05 w hT).mono ?_
    rintro e W1 ⟨rfl, hB1⟩
    go_wp2_with fail
    go_ret
    exact ⟨rfl, hB1⟩
end Go.Proofs.YtapkhafgfbhkkaaDoor
