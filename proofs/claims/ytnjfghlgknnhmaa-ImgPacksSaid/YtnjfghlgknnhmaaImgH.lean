/-
  Walks: the reference's reader; portreeveref14.HeaderOf.
-/
import Derived.Test.YtnjfghlgknnhmaaImgG
namespace Go.Proofs.Ytnjfghlgknnhmaa
open Go.RowKit

/-- of what was there block g alone may have changed -/
def Only (g : Nat) (w w' : World) : Prop := Chg (fun b => b = g) w w'
theorem Only.refl (g : Nat) (w : World) : Only g w w := Chg.refl _ w
theorem Only.trans {g : Nat} {a b c : World} (h : Only g a b) (k : Only g b c) : Only g a c := Chg.trans h k
theorem Only.below {g : Nat} {w w' : World} (h : Only g w w') (hg : g ≤ w.heap.size) : Below g w w' := Chg.below h (fun k e => by have e2 : k = g := e; omega) hg
theorem Only.set (g i : Nat) (v : Value) (w : World) : Only g w (w.setCell ⟨g, i, none⟩ v) := Chg.grown (grown_set w g i v) (by rintro k h; cases h; rfl)
theorem Only.drewN (g n : Nat) (w : World) : Only g w (w.drewN n) := Chg.of_ext (below_drewN (Below.refl _ _) _)
def rdr (s : Value) (p : Nat) (e x : Int) : Array Value := #[s, .int .i64 (p : Int), .int .i64 e, .int .i64 x]

set_option maxRecDepth 100000 in
set_option maxHeartbeats 1000000 in
theorem rfail_any (g : Nat) (s : Value) (p : Nat) (e0 x : Int) (er : Int) (q : Int) (w : World) (hb : Blk w g 115 (rdr s p e0 x)) :
    Calls Try.prog 77 #[.pointer (some ⟨g, 0, none⟩), .int .i64 er, .int .i64 q] w fun e w' => (∃ u, e = .returned u) ∧ (∃ e1 x1 : Int, Blk w' g 115 (rdr s p e1 x1)) ∧ Only g w w' := by
  have hc : w.cell? ⟨g, 2, none⟩ = some (.int .i64 e0) := (hb.cell 2).trans rfl
  have hf : w.frozen? ⟨g, 2, none⟩ = false := hb.frozen 2
  by_cases h0 : e0 = 0
  · subst h0
    have hb1 := hb.set_ 2 (.int .i64 er)
    have hc1 : (w.setCell ⟨g, 2, none⟩ (.int .i64 er)).cell? ⟨g, 3, none⟩ = some (.int .i64 x) := (hb1.cell 3).trans rfl
    have hf1 : (w.setCell ⟨g, 2, none⟩ (.int .i64 er)).frozen? ⟨g, 3, none⟩ = false := hb1.frozen 3
    have hb2 := hb1.set_ 3 (.int .i64 q)
    have hB : Only g w ((w.setCell ⟨g, 2, none⟩ (.int .i64 er)).setCell ⟨g, 3, none⟩ (.int .i64 q)) := (Only.set g 2 _ w).trans (Only.set g 3 _ _)
    go_enter Try.func77, Try.ntmps77
    go_wp2
    go_end0
    exact ⟨⟨_, rfl⟩, ⟨er, q, by simpa [rdr] using hb2⟩, hB⟩
  · have h1 : (e0 == 0) = false := by simpa using h0
    go_enter Try.func77, Try.ntmps77
    go_wp2
    go_end0
    exact ⟨⟨_, rfl⟩, ⟨e0, x, hb⟩, Only.refl _ _⟩

set_option maxRecDepth 100000 in
set_option maxHeartbeats 2000000 in
theorem rtake_any (g b off c : Nat) (hc : 64 ≤ c) (p n : Nat) (hp : p < 64) (hpn : p + n ≤ 64) (x : Int) (w : World) (hb : Blk w g 115 (rdr (.slice (some ⟨b, off, none⟩) 64 c) p 0 x)) :
    Calls Try.prog 76 #[.pointer (some ⟨g, 0, none⟩), .int .i64 (n : Int)] w fun e w' => e = .returned (.slice (some ⟨b, off + p, none⟩) n (c - p)) ∧ Blk w' g 115 (rdr (.slice (some ⟨b, off, none⟩) 64 c) (p + n) 0 x) ∧ Only g w w' := by
  have hcp : ¬ c = p := by omega
  have c0 : w.cell? ⟨g, 0, none⟩ = some (.slice (some ⟨b, off, none⟩) 64 c) := (hb.cell 0).trans rfl
  have c1 : w.cell? ⟨g, 1, none⟩ = some (.int .i64 (p : Int)) := (hb.cell 1).trans rfl
  have c2 : w.cell? ⟨g, 2, none⟩ = some (.int .i64 0) := (hb.cell 2).trans rfl
  have f1 : w.frozen? ⟨g, 1, none⟩ = false := hb.frozen 1
  go_enter Try.func76, Try.ntmps76
  go_wp2
  go_quiet (fail)
  go_wp2
  go_quiet (fail)
  go_wp2
  go_ret
  refine ⟨?_, ?_, ?_⟩
  · show Ending.returned (.slice (some ⟨b, off + p, none⟩) (p + n - p) (c - p)) = _
    rw [Nat.add_sub_cancel_left]
  · simpa [rdr] using (hb.drewN _).set_ 1 (.int .i64 ((p : Int) + n))
  · exact (Only.drewN g _ w).trans (Only.set g 1 _ _)

theorem rdNum_part (l : List UInt8) (p : Nat) (h : p + 4 ≤ l.length) : rdNum ((l.drop p).take 4) 0 4 false = rdNum l p 4 false := by
  have h1 : (0 : Int) ≤ 0 ∧ (0 : Int) + (4 : Nat) ≤ ((l.drop p).take 4).length := by simp; omega
  have h2 : (0 : Int) ≤ (p : Int) ∧ (p : Int) + (4 : Nat) ≤ l.length := by omega
  rw [rdNum, rdNum, if_pos h1, if_pos h2]
  unfold readNum
  apply numOf_congr
  intro j hj
  unfold byteAt
  simp only [Bool.false_eq_true, if_false, Int.toNat_zero, Int.toNat_natCast]
  rw [List.getElem?_take, if_pos (by omega), List.getElem?_drop]
  congr 3 <;> omega

set_option maxRecDepth 100000 in
set_option maxHeartbeats 2000000 in
theorem rnumber_any (g b off c : Nat) (hc : 64 ≤ c) (l : List UInt8) (p : Nat) (hp : p + 4 ≤ 64) (x : Int) (w : World) (hb : Blk w g 115 (rdr (.slice (some ⟨b, off, none⟩) 64 c) p 0 x)) (hR : Rd w g 1 (some ⟨b, off, none⟩) 64 (bcells l)) :
    Calls Try.prog 61 #[.pointer (some ⟨g, 0, none⟩), .int .i64 4, .int .u64 4294967295, .int .i64 144] w fun e w' => e = .returned (.int .u64 (rdNum l p 4 false : Nat)) ∧ Blk w' g 115 (rdr (.slice (some ⟨b, off, none⟩) 64 c) (p + 4) 0 x) ∧ Only g w w' := by
  have hlen : l.length = 64 := by have := hR.len; rw [bcells_length] at this; omega
  have hlt := rdNum_lt l p 4 false
  obtain ⟨N, hN⟩ : ∃ N, N = rdNum l p 4 false := ⟨_, rfl⟩
  rw [← hN] at hlt ⊢
  have hrn : Hid (rdNum ((l.drop p).take 4) 0 4 false = N) := Lib.hid (by rw [hN]; exact rdNum_part l p (by omega))
  clear hN
  have c1 : w.cell? ⟨g, 1, none⟩ = some (.int .i64 (p : Int)) := (hb.cell 1).trans rfl
  have hglt := hb.lt
  clear hlen
  go_enter Try.func61, Try.ntmps61
  go_wp2_with fail
  refine (rtake_any g b off c hc p 4 (by omega) hp x w hb).mono ?_
  rintro e w1 ⟨rfl, hb1, hO1⟩
  have hB1 := hO1.below (Nat.le_of_lt hb.lt)
  have hRt : Rd w1 w1.heap.size 1 (some ⟨b, off + p, none⟩) 4 (bcells ((l.drop p).take 4)) := by
    rcases Nat.eq_zero_or_pos p with rfl | h0
    · have := hR.front (k := 4) (by omega)
      rw [Nat.mul_one] at this
      simp only [bcells, List.map_take, List.drop_zero, Nat.add_zero] at this ⊢
      exact (this.below hB1).more (Nat.le_of_lt hb1.lt)
    · exact ((hR.at_ p 4 (by omega) h0).below hB1).more (Nat.le_of_lt hb1.lt)
  go_wp2_with fail
  refine (number_any _ 4 _ 0 false _ w1 4 hRt (by omega) (by omega) (by omega)).mono ?_
  rintro e w' ⟨rfl, hw⟩
  subst hw
  rw [hrn.out]
  have hn : ¬ (4294967295 : Int) < (N : Int) := by omega
  go_wp2
  go_ret
  exact ⟨rfl, hb1, hO1⟩
end Go.Proofs.Ytnjfghlgknnhmaa
