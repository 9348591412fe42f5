/-
  Walks: the reference's Read and Write.
-/
import Derived.Test.YtjfmgoickokbjaaMaV
namespace Go.Proofs.Ytjfmgoickokbjaa
open Go.RowKit

theorem RM.cells {w : World} {r : Nat} {ram : Sp} {m : Mm} {F : Nat → Prop} {ps : List (Nat × Nat)} {A : Option Addr} {c : Nat} (h : RM w r ram m F ps A c) {j : Nat} {x : Nat × Nat} (hx : ps[j]? = some x) :
    ∃ pb po, A = some ⟨pb, po, none⟩ ∧ w.cell? ⟨pb, po + j * 2, none⟩ = some (.int .u64 ((4096 * x.1 : Nat) : Int)) ∧ w.cell? ⟨pb, po + j * 2 + 1, none⟩ = some (pgV x.2) := by
  obtain ⟨hlt, _⟩ := List.getElem?_eq_some_iff.1 hx
  obtain ⟨pb, po, rfl, _, _⟩ := (Rd.of_own h.own).range (by omega)
  have hrng := rd_page (Rd.of_own h.own) j x hx
  exact ⟨pb, po, rfl, hrng 0 _ rfl, hrng 1 _ rfl⟩
theorem page_part (m : Mm) (ad k q o s : Nat) (hx : ad + k = 4096 * q + o) (hs : o + s ≤ 4096) : readM m ad k ++ ((pageOf m q).drop o).take s = readM m ad (k + s) := by
  rw [readM_add, readM_page m (ad + k) q o s hx hs]

set_option maxRecDepth 100000 in
set_option maxHeartbeats 2000000 in
theorem rread_any (r : Nat) (ram : Sp) (okr : ram.ok) (hr40 : ram.base + ram.size ≤ 1099511627776) (m : Mm) (F : Nat → Prop) (N : Nat) (hN : N ≤ 1000000) (ad n : Nat) (had : ad < 18446744073709551616) (hn : n < 18446744073709551616) (w : World) (hM : RMem w r ram m F N) :
    Calls Try.prog 27 #[.pointer (some ⟨r, 0, none⟩), .int .u64 (ad : Int), .int .u64 (n : Int)] w (BErr w (readV ram m ad n) (askErr ram ad n)) := by
  obtain ⟨ps, A, c, hP, hps⟩ := hM
  go_enter Try.func27, Try.ntmps27
  go_wp2_with fail
  refine (rask_any r ram okr _ ad n had hn w hP.blk).mono ?_
  rintro e W1 ⟨rfl, B1⟩
  have hP1 := hP.below B1 (Nat.le_refl _)
  have hFlt : ∀ b, F b → b < w.heap.size := hP.flt
  obtain ⟨E, hE⟩ : ∃ E, E = askErr ram ad n := ⟨_, rfl⟩
  rw [← hE]
  by_cases h0 : E = 0
  · have hL : Hid (readV ram m ad n = readM m ad n) := Lib.hid (by rw [readV, ← hE, if_pos h0])
    have HE := Lib.hid hE
    obtain ⟨hn1, hin⟩ := ask_ok (by rw [← hE]; exact h0)
    have hin : n = 0 ∨ ad + n ≤ 1099511627776 := by omega
    have HIN := Lib.hid hin
    subst h0
    clear hE hP hin
    go_wp2
    go_loopw [9] (fun v wr => ∃ k : Nat, k ≤ n ∧ Below w.heap.size w wr ∧ RM wr r ram m F ps A c ∧ ∃ A' c', v = .slice A' k c' ∧ wr.ownsRow w.heap.size 5 1 (.slice A' k c') k (bcells (readM m ad k)) ∧ (k = 0 → A' = none ∧ c' = 0)) (fun v _ => match v with | .slice _ k _ => n - k | _ => 0)
    case atStart => exact ⟨0, Nat.zero_le _, B1, hP1, none, 0, rfl, World.ownsRow_nil _ _ _ _, fun _ => ⟨rfl, rfl⟩⟩
    case round =>
      obtain ⟨k, hk, hB, hP3, A', c', rfl, hO, hnil⟩ := hrel
      have hk1 : IntKind.u64.wrap (k : Int) = (k : Int) := IntWalk.u64_in _ (by omega)
      by_cases hlt : k < n
      · have hin2 : ad + n ≤ 1099511627776 := by have := HIN.out; omega
        obtain ⟨x, hx⟩ : ∃ x, x = ad + k := ⟨_, rfl⟩
        obtain ⟨q, hq⟩ : ∃ q, q = x / 4096 := ⟨_, rfl⟩
        obtain ⟨o, ho⟩ : ∃ o, o = x % 4096 := ⟨_, rfl⟩
        obtain ⟨y, hy⟩ : ∃ y, y = 4096 - o := ⟨_, rfl⟩
        obtain ⟨z, hz⟩ : ∃ z, z = n - k := ⟨_, rfl⟩
        obtain ⟨at_, hat⟩ : ∃ a, a = 4096 * q := ⟨_, rfl⟩
        have hq52 : q < 4503599627370496 := by omega
        have ho4 : o < 4096 := by omega
        have hxq : ad + k = 4096 * q + o := by omega
        have hx1 : IntKind.u64.wrap ((ad : Int) + (k : Int)) = (x : Int) := by rw [IntWalk.u64_in _ (by omega)]; omega
        have hx2 : (x : Int) % 4096 = (o : Int) := by omega
        have hx3 : (x : Int) / 4096 = (q : Int) := by omega
        have hx6 : IntKind.u64.wrap ((q : Int) * 4096) = (at_ : Int) := by rw [IntWalk.u64_in _ (by omega)]; omega
        have hy1 : (4096 : Int) - (o : Int) = (y : Int) := by omega
        have hz1 : (n : Int) - (k : Int) = (z : Int) := by omega
        have hcase : ∃ s : Nat, ((y ≤ z ∧ s = y) ∨ (z < y ∧ s = z)) ∧ 1 ≤ s ∧ k + s ≤ n ∧ o + s ≤ 4096 := by
          rcases Nat.lt_or_ge z y with h1 | h1
          · exact ⟨z, .inr ⟨h1, rfl⟩, by omega, by omega, by omega⟩
          · exact ⟨y, .inl ⟨h1, rfl⟩, by omega, by omega, by omega⟩
        obtain ⟨s, hcs, hs1, hkn, hos⟩ := hcase
        have hfind := rfind_any r ram m F ps A c q at_ hq52 hat (by omega) false wr hP3
        have c2 : wr.cell? ⟨r, 2, none⟩ = some (.slice A ps.length c) := (hP3.blk.cell 2).trans rfl
        have HXQ := Lib.hid hxq
        have HKN := Lib.hid hkn
        clear hx hq ho hy hz hin2 hxq hat
        rcases hcs with ⟨hyz, hsy⟩ | ⟨hyz, hsy⟩
        all_goals
          subst hsy
          rename_i s
          go_wp2_with fail
          refine hfind.mono ?_
          rintro e w5 (⟨j, x5, rfl, hj, hjq, rfl⟩ | ⟨hno, _, rfl, rfl⟩ | ⟨_, h5, _⟩)
          · obtain ⟨pb, po, hA, _, cb⟩ := hP3.cells hj
            have hrow := (hP3.rows x5 (List.mem_of_getElem? hj)).1
            rw [hjq] at hrow
            obtain ⟨g, hg⟩ : ∃ g, g = x5.2 := ⟨_, rfl⟩
            rw [← hg] at cb hrow
            have hrd := rd_partM (c := 4096) (by have := hrow.rd (size := 1) (n := 4096) (by rw [List.size_toArray, bcells_length, pageOf_length]); rwa [List.toList_toArray] at this) (Nat.le_refl _) o s (by omega)
            have hsl := fun W => run_slice_lhK (P := Try.prog) W 26 (by kernel_rfl) (by kernel_rfl) g 0 4096 4096 o s .u64 .u64 (o : Int) ((o : Int) + (s : Int)) rfl (by omega) (by omega)
            have ho6 : ¬ 4096 = o := by omega
            simp only [if_neg ho6, Nat.zero_add] at hrd hsl
            have hjl : j < ps.length := (List.getElem?_eq_some_iff.1 hj).1
            have HJ := Lib.hid hj
            have HA := Lib.hid hA
            rw [hA] at c2
            unfold pgV at cb
            clear hfind hj hA hg hjq hrow
            go_wp2_with (at_builtin; refine wpList_app w5 el8m rfl _ _ rfl w.heap.size A' k c' _ rfl hO w5.heap.size (some ⟨g, o, none⟩) s (4096 - o) _ rfl hrd (bcells_one _) (by omega) (by omega) hB.size ?_; intro A1 c1 w6 hO6 hg6 hB6 _)
            have B6 := hB.trans hB6
            have hP6 : RM w6 r ram m F ps A c := hP3.keep hB6.size (fun b hF => hB6.block b (hFlt b hF))
            rw [← bcells_append, page_part m ad k q o s HXQ.out hos] at hO6
            go_roundw
            case rel => exact ⟨k + s, hkn, B6, hP6, A1, c1, rfl, hO6, fun h => by omega⟩
            case measure => show n - (k + s) < n - k; omega
          · have hzz : Hid (∀ i, i < s → m (ad + k + i) = 0) := Lib.hid (fun i hi => by rw [HXQ.out, Nat.add_assoc]; exact hP3.zero q hno (o + i) (by omega))
            clear hfind hno
            go_wp2_with (at_builtin; refine wpList_appZ w5 rfl _ _ 22 .u64 .u64 Try.underlying22 rfl w.heap.size A' k c' _ rfl hO hnil s rfl (by omega) (by omega) hB.size ?_; intro A1 c1 w6 hO6 hB6)
            have B6 := hB.trans hB6
            have hP6 : RM w6 r ram m F ps A c := hP3.keep hB6.size (fun b hF => hB6.block b (hFlt b hF))
            rw [← readM_zero m (ad + k) s hzz.out, ← readM_add] at hO6
            go_roundw
            case rel => exact ⟨k + s, hkn, B6, hP6, A1, c1, rfl, hO6, fun h => by omega⟩
            case measure => show n - (k + s) < n - k; omega
          · cases h5
      · obtain rfl : k = n := by omega
        go_wp2
        go_ret2
        rw [hL.out, ← HE.out]
        unfold BErr
        rw [readM_length]
        exact ⟨A', c', rfl, Flow.own_le hO, Rd.of_own hO, hB⟩
  · have hL : Hid (readV ram m ad n = []) := Lib.hid (by rw [readV, ← hE, if_neg h0])
    have hne : (E != 0) = true := by simpa using h0
    have HE := Lib.hid hE
    clear hE h0 hP hP1
    go_wp2
    go_ret2
    rw [hL.out, ← HE.out]
    exact ⟨none, 0, rfl, Nat.le_refl _, Rd.nil _ _ _ _, B1⟩
end Go.Proofs.Ytjfmgoickokbjaa
