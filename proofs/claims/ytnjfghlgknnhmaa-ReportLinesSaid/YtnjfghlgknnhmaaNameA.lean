/-
  Walks: report.Name, report.Of, portreeveref29.Name, portreeveref29.Named.
-/
import Derived.Test.YtnjfghlgknnhmaaNames
import Derived.Test.YtnjfghlgknnhmaaStore2
import Derived.Test.YtnjfghlgknnhmaaOwn
import Derived.Deep.MidRow
namespace Go.Proofs.Ytnjfghlgknnhmaa
open Go.RowKit

theorem find_hit {α : Type} (l : List α) (p : α → Bool) (k : Nat) (h : (l.take k).find? p = none) (hk : k < l.length) (hp : p l[k] = true) : l.find? p = some l[k] := by
  conv => lhs; rw [← List.take_append_drop k l, List.find?_append, h, List.drop_eq_getElem_cons hk, List.find?_cons, hp]
  rfl
theorem find_next {α : Type} (l : List α) (p : α → Bool) (k : Nat) (h : (l.take k).find? p = none) (hk : k < l.length) (hp : p l[k] = false) : (l.take (k + 1)).find? p = none := by
  rw [List.take_succ_eq_append_getElem hk, List.find?_append, h]; simp [hp]
theorem find_end {α : Type} (l : List α) (p : α → Bool) (k : Nat) (h : (l.take k).find? p = none) (hk : l.length ≤ k) : l.find? p = none := by
  rw [List.take_of_length_le hk] at h; exact h

theorem pairs_get (l : List (Nat × List UInt8)) : ∀ k (h : k < l.length), (l.flatMap fun x => [.int .i64 x.1, strV x.2])[k * 2]? = some (.int .i64 l[k].1) ∧ (l.flatMap fun x => [.int .i64 x.1, strV x.2])[k * 2 + 1]? = some (strV l[k].2) := by
  induction l with
  | nil => intro k h; simp at h
  | cons a l ih =>
    intro k h
    cases k with
    | zero => simp
    | succ k =>
      have := ih k (by simpa using h)
      rw [List.flatMap_cons, show (k + 1) * 2 = (k * 2) + 1 + 1 by omega]
      simpa using this
theorem tab48 : nameTab.length = 48 := rfl
theorem named_range {w : World} {g : Nat} {t : TypeId} (h : Blk w g t namedCells) (k : Nat) (hk : k < nameTab.length) : w.rangeAt g (k * 2) [.int .i64 (nameTab[k].1 : Nat), strV nameTab[k].2] := by
  obtain ⟨h1, h2⟩ := pairs_get nameTab k hk
  intro j v hv
  rw [h.cell]
  match j, hv with
  | 0, hv => rw [namedCells, List.getElem?_toArray]; simpa using (by simpa using hv) ▸ h1
  | 1, hv => rw [namedCells, List.getElem?_toArray]; simpa using (by simpa using hv) ▸ h2
  | j + 2, hv => simp at hv
theorem num_cell {w : World} {g : Nat} {t : TypeId} (h : Blk w g t numCells) (k : Nat) (hk : k < nameTab.length) : w.cell? ⟨g, k, none⟩ = some (.int .i64 (nameTab[k].1 : Nat)) := by
  rw [h.cell, numCells, List.getElem?_toArray, List.getElem?_map, List.getElem?_eq_getElem hk]; rfl
theorem str_cell {w : World} {g : Nat} {t : TypeId} (h : Blk w g t strCells) (k : Nat) (hk : k < nameTab.length) : w.cell? ⟨g, k, none⟩ = some (strV nameTab[k].2) := by
  rw [h.cell, strCells, List.getElem?_toArray, List.getElem?_map, List.getElem?_eq_getElem hk]; rfl

def byNum (e : Int) (x : Nat × List UInt8) : Bool := ((x.1 : Nat) : Int) == e
def byName (s : List UInt8) (x : Nat × List UInt8) : Bool := x.2 == s
/-- an error's name -/
def nameOf (e : Int) : List UInt8 := match nameTab.find? (byNum e) with
  | some x => x.2
  | none => [101, 114, 114, 111, 114, 32] ++ digStr e
/-- a name's error -/
def errOf (s : List UInt8) : Option Nat := (nameTab.find? (byName s)).map (·.1)
theorem digStr_length (n : Int) (h0 : -9223372036854775808 ≤ n) (h1 : n < 9223372036854775808) : (digStr n).length ≤ 21 := by
  unfold digStr
  split
  · rw [List.length_cons, decStr, ddigs_length]; have := decLen_le (x := (-n).toNat) (by omega) (dlen_is _); omega
  · rw [decStr, ddigs_length]; have := decLen_le (x := n.toNat) (by omega) (dlen_is _); omega

theorem ent_one (m : Nat) (s : List UInt8) : ∀ v ∈ (#[.int .i64 m, strV s] : Array Value).toList, v.oneCell' = true := by
  intro v hv; simp at hv; rcases hv with rfl | rfl <;> rfl
theorem ent2 : (Try.prog.info? 140).map (·.size) = some 2 := by kernel_rfl

set_option maxRecDepth 100000 in
set_option maxHeartbeats 2000000 in
theorem mName_any (n : Int) (h0 : -9223372036854775808 ≤ n) (h1 : n < 9223372036854775808) (w : World) :
    Calls Try.prog 47 #[.int .i64 n] w fun e w' => e = .returned (.string ⟨(nameOf n).toArray⟩) ∧ Below w.heap.size w w' := by
  obtain ⟨N, hN⟩ : ∃ N, N = nameOf n := ⟨_, rfl⟩
  rw [← hN]
  have HN := Lib.hid hN
  clear hN
  go_enter Try.func47, Try.ntmps47
  go_wp2_with fail
  refine (named_any w).mono ?_
  rintro e W0 ⟨rfl, hb0, hB0⟩
  go_wp2_with fail
  go_loopw [7] (fun i wr => ∃ k : Nat, k ≤ 48 ∧ i = .int .i64 k ∧ Hid ((nameTab.take k).find? (byNum n) = none) ∧ Blk wr w.heap.size 140 namedCells ∧ Below w.heap.size w wr) (fun i _ => 48 - (intOf i).toNat)
  case atStart => exact ⟨0, Nat.zero_le _, rfl, Lib.hid rfl, hb0, hB0⟩
  case round =>
    obtain ⟨k, hk, rfl, HF, hb, hB⟩ := hrel
    clear hb0 hB0
    by_cases hk48 : k < 48
    · have hkt : k < nameTab.length := hk48
      have hr := named_range hb k hkt
      obtain ⟨m, s, hms⟩ : ∃ m s, nameTab[k] = (m, s) := ⟨_, _, rfl⟩
      rw [hms] at hr
      have Hms := Lib.hid hms
      clear hms
      have hnm : byNum n (m, s) = ((m : Int) == n) := rfl
      by_cases hq : (m : Int) = n
      · have hq2 : ((m : Int) == n) = true := by simp [hq]
        have hfin : N = s := by
          have := find_hit nameTab (byNum n) k HF.out hkt (by rw [Hms.out]; exact hnm.trans hq2)
          rw [HN.out, nameOf, this, Hms.out]
        clear hnm HN HF Hms hq
        subst hfin
        go_wp2_with first
          | ((with_reducible refine at_load 140 ?_); refine wpList_load_mid rfl 140 _ rfl w.heap.size (k * 2) rfl [.int .i64 m, strV N] _ hr Try.underlying140 rfl ent2 ?_)
          | ((with_reducible refine at_store 140 ?_); refine wpList_storeAll _ rfl 140 _ _ rfl wr.heap.size 140 _ #[.int .i64 m, strV N] (Blk.new wr 140 #[.int .i64 0, .string ⟨#[]⟩]) rfl rfl rfl ent2 (ent_one _ _) ?_; intro W3 hb3 hg3 hs3; have c0 := hb3.cell 0; have c1 := hb3.cell 1; have B3 := grown_below (hB.alloc hB.size _) hg3 (by simp; have := hB.size; omega) hB.size; simp only [strV] at c1; clear hg3 hs3 hb3)
        go_ret
        exact ⟨rfl, B3⟩
      · have hq2 : ((m : Int) == n) = false := by simp [hq]
        have hfin := Lib.hid (find_next nameTab (byNum n) k HF.out hkt (by rw [Hms.out]; exact hnm.trans hq2))
        clear hnm HF Hms
        go_wp2_with first
          | ((with_reducible refine at_load 140 ?_); refine wpList_load_mid rfl 140 _ rfl w.heap.size (k * 2) rfl [.int .i64 m, strV s] _ hr Try.underlying140 rfl ent2 ?_)
          | ((with_reducible refine at_store 140 ?_); refine wpList_storeAll _ rfl 140 _ _ rfl wr.heap.size 140 _ #[.int .i64 m, strV s] (Blk.new wr 140 #[.int .i64 0, .string ⟨#[]⟩]) rfl rfl rfl ent2 (ent_one _ _) ?_; intro W3 hb3 hg3 hs3; have c0 := hb3.cell 0; have c1 := hb3.cell 1; have B3 := grown_below (hB.alloc hB.size _) hg3 (by simp; have := hB.size; omega) hB.size; have hb' := (hb.alloc (.cells #[.int .i64 0, .string ⟨#[]⟩] 140)).grown hg3 (by simp; have := hb.lt; omega); simp only [strV] at c1; clear hg3 hs3 hb3)
        go_roundw
        case rel => exact ⟨k + 1, by omega, by go_num, hfin, hb', B3⟩
        case measure => simp [intOf]; omega
    · have hke : k = 48 := by omega
      subst hke
      have hfin : nameTab.find? (byNum n) = none := find_end _ _ 48 HF.out (Nat.le_refl _)
      have hN2 : N = [101, 114, 114, 111, 114, 32] ++ digStr n := by rw [HN.out, nameOf, hfin]
      obtain ⟨D, hD⟩ : ∃ D, D = digStr n := ⟨_, rfl⟩
      have hDl : D.length ≤ 21 := by rw [hD]; exact digStr_length n h0 h1
      rw [← hD] at hN2
      have HN2 := Lib.hid hN2
      have HD := Lib.hid hD
      clear hfin hN2 hD HN HF
      go_wp2_with fail
      refine (mDigits_any n h0 h1 _).mono ?_
      rintro e W4 ⟨rfl, hB4⟩
      rw [← HD.out]
      have B4 := hB.trans (hB4.mono hB.size)
      go_wp2
      go_ret
      exact ⟨by rw [ByteArray.mk_append_mk, HN2.out]; rfl, B4⟩

set_option maxRecDepth 100000 in
set_option maxHeartbeats 2000000 in
theorem mOf_any (S : List UInt8) (w : World) :
    Calls Try.prog 45 #[.string ⟨S.toArray⟩] w fun e w' => e = .returned (.tuple #[.int .i64 ((errOf S).getD 0 : Nat), .bool (errOf S).isSome]) ∧ Below w.heap.size w w' := by
  obtain ⟨N, hN⟩ : ∃ N, N = errOf S := ⟨_, rfl⟩
  rw [← hN]
  have HN := Lib.hid hN
  clear hN
  go_enter Try.func45, Try.ntmps45
  go_wp2_with fail
  refine (named_any w).mono ?_
  rintro e W0 ⟨rfl, hb0, hB0⟩
  go_wp2_with fail
  go_loopw [8] (fun i wr => ∃ k : Nat, k ≤ 48 ∧ i = .int .i64 k ∧ Hid ((nameTab.take k).find? (byName S) = none) ∧ Blk wr w.heap.size 140 namedCells ∧ Below w.heap.size w wr) (fun i _ => 48 - (intOf i).toNat)
  case atStart => exact ⟨0, Nat.zero_le _, rfl, Lib.hid rfl, hb0, hB0⟩
  case round =>
    obtain ⟨k, hk, rfl, HF, hb, hB⟩ := hrel
    clear hb0 hB0
    by_cases hk48 : k < 48
    · have hkt : k < nameTab.length := hk48
      have hr := named_range hb k hkt
      obtain ⟨m, s, hms⟩ : ∃ m s, nameTab[k] = (m, s) := ⟨_, _, rfl⟩
      rw [hms] at hr
      have Hms := Lib.hid hms
      clear hms
      have hnm : byName S (m, s) = (s == S) := rfl
      cases hq : s == S
      · rw [hq] at hnm
        have hfin := Lib.hid (find_next nameTab (byName S) k HF.out hkt (by rw [Hms.out]; exact hnm))
        clear hnm HF Hms
        go_wp2_with first
          | ((with_reducible refine at_load 140 ?_); refine wpList_load_mid rfl 140 _ rfl w.heap.size (k * 2) rfl [.int .i64 m, strV s] _ hr Try.underlying140 rfl ent2 ?_)
          | ((with_reducible refine at_store 140 ?_); refine wpList_storeAll _ rfl 140 _ _ rfl wr.heap.size 140 _ #[.int .i64 m, strV s] (Blk.new wr 140 #[.int .i64 0, .string ⟨#[]⟩]) rfl rfl rfl ent2 (ent_one _ _) ?_; intro W3 hb3 hg3 hs3; have c0 := hb3.cell 0; have c1 := hb3.cell 1; have B3 := grown_below (hB.alloc hB.size _) hg3 (by simp; have := hB.size; omega) hB.size; have hb' := (hb.alloc (.cells #[.int .i64 0, .string ⟨#[]⟩] 140)).grown hg3 (by simp; have := hb.lt; omega); simp only [strV] at c1; clear hg3 hs3 hb3)
        go_roundw
        case rel => exact ⟨k + 1, by omega, by go_num, hfin, hb', B3⟩
        case measure => simp [intOf]; omega
      · rw [hq] at hnm
        have hfin : N = some m := by
          have := find_hit nameTab (byName S) k HF.out hkt (by rw [Hms.out]; exact hnm)
          rw [HN.out, errOf, this, Hms.out]; rfl
        clear hnm HN HF Hms
        subst hfin
        go_wp2_with first
          | ((with_reducible refine at_load 140 ?_); refine wpList_load_mid rfl 140 _ rfl w.heap.size (k * 2) rfl [.int .i64 m, strV s] _ hr Try.underlying140 rfl ent2 ?_)
          | ((with_reducible refine at_store 140 ?_); refine wpList_storeAll _ rfl 140 _ _ rfl wr.heap.size 140 _ #[.int .i64 m, strV s] (Blk.new wr 140 #[.int .i64 0, .string ⟨#[]⟩]) rfl rfl rfl ent2 (ent_one _ _) ?_; intro W3 hb3 hg3 hs3; have c0 := hb3.cell 0; have c1 := hb3.cell 1; have B3 := grown_below (hB.alloc hB.size _) hg3 (by simp; have := hB.size; omega) hB.size; simp only [strV] at c1; clear hg3 hs3 hb3)
        go_ret2
        exact ⟨rfl, B3⟩
    · have hke : k = 48 := by omega
      subst hke
      have hfin : nameTab.find? (byName S) = none := find_end _ _ 48 HF.out (Nat.le_refl _)
      have hN2 : N = none := by rw [HN.out, errOf, hfin]; rfl
      subst hN2
      clear hfin HN HF
      go_wp2
      go_ret2
      exact ⟨rfl, hB⟩

set_option maxRecDepth 100000 in
set_option maxHeartbeats 2000000 in
theorem rName_any (n : Int) (h0 : -9223372036854775808 ≤ n) (h1 : n < 9223372036854775808) (w : World) :
    Calls Try.prog 48 #[.int .i64 n] w fun e w' => e = .returned (.string ⟨(nameOf n).toArray⟩) ∧ Below w.heap.size w w' := by
  obtain ⟨N, hN⟩ : ∃ N, N = nameOf n := ⟨_, rfl⟩
  rw [← hN]
  have HN := Lib.hid hN
  clear hN
  go_enter Try.func48, Try.ntmps48
  go_wp2_with fail
  refine (names_any w).mono ?_
  rintro e W0 ⟨rfl, hb0, hb1, hB0⟩
  go_wp2_with fail
  go_loopw [12] (fun i wr => ∃ k : Nat, k ≤ 48 ∧ i = .int .i64 k ∧ Hid ((nameTab.take k).find? (byNum n) = none) ∧ wr = W0) (fun i _ => 48 - (intOf i).toNat)
  case atStart => exact ⟨0, Nat.zero_le _, rfl, Lib.hid rfl, rfl⟩
  case round =>
    obtain ⟨k, hk, rfl, HF, rfl⟩ := hrel
    by_cases hk48 : k < 48
    · have hkt : k < nameTab.length := hk48
      have hc := num_cell hb0 k hkt
      have hd := str_cell hb1 k hkt
      obtain ⟨m, s, hms⟩ : ∃ m s, nameTab[k] = (m, s) := ⟨_, _, rfl⟩
      rw [hms] at hc hd
      simp only [strV] at hd
      have Hms := Lib.hid hms
      clear hms
      have hnm : byNum n (m, s) = ((m : Int) == n) := rfl
      by_cases hq : (m : Int) = n
      · have hq2 : ((m : Int) == n) = true := by simp [hq]
        have hfin : N = s := by
          have := find_hit nameTab (byNum n) k HF.out hkt (by rw [Hms.out]; exact hnm.trans hq2)
          rw [HN.out, nameOf, this, Hms.out]
        clear hnm HN HF Hms hq
        subst hfin
        go_wp2
        go_ret
        exact ⟨rfl, hB0⟩
      · have hq2 : ((m : Int) == n) = false := by simp [hq]
        have hfin := Lib.hid (find_next nameTab (byNum n) k HF.out hkt (by rw [Hms.out]; exact hnm.trans hq2))
        clear hnm HF Hms
        go_wp2
        go_roundw
        case rel => exact ⟨k + 1, by omega, by go_num, hfin, trivial⟩
        case measure => simp [intOf]; omega
    · have hke : k = 48 := by omega
      subst hke
      have hfin : nameTab.find? (byNum n) = none := find_end _ _ 48 HF.out (Nat.le_refl _)
      have hN2 : N = [101, 114, 114, 111, 114, 32] ++ digStr n := by rw [HN.out, nameOf, hfin]
      obtain ⟨D, hD⟩ : ∃ D, D = digStr n := ⟨_, rfl⟩
      have hDl : D.length ≤ 21 := by rw [hD]; exact digStr_length n h0 h1
      rw [← hD] at hN2
      have HN2 := Lib.hid hN2
      have HD := Lib.hid hD
      clear hfin hN2 hD HN HF
      go_wp2_with fail
      refine (rDigits_any n h0 h1 _).mono ?_
      rintro e W4 ⟨rfl, rfl⟩
      rw [← HD.out]
      go_wp2
      go_ret
      exact ⟨by rw [ByteArray.mk_append_mk, HN2.out]; rfl, hB0⟩

set_option maxRecDepth 100000 in
set_option maxHeartbeats 2000000 in
theorem rNamed_any (S : List UInt8) (w : World) :
    Calls Try.prog 46 #[.string ⟨S.toArray⟩] w fun e w' => e = .returned (.tuple #[.int .i64 ((errOf S).getD 0 : Nat), .bool (errOf S).isSome]) ∧ Below w.heap.size w w' := by
  obtain ⟨N, hN⟩ : ∃ N, N = errOf S := ⟨_, rfl⟩
  rw [← hN]
  have HN := Lib.hid hN
  clear hN
  go_enter Try.func46, Try.ntmps46
  go_wp2_with fail
  refine (names_any w).mono ?_
  rintro e W0 ⟨rfl, hb0, hb1, hB0⟩
  go_wp2_with fail
  go_loopw [13] (fun i wr => ∃ k : Nat, k ≤ 48 ∧ i = .int .i64 k ∧ Hid ((nameTab.take k).find? (byName S) = none) ∧ wr = W0) (fun i _ => 48 - (intOf i).toNat)
  case atStart => exact ⟨0, Nat.zero_le _, rfl, Lib.hid rfl, rfl⟩
  case round =>
    obtain ⟨k, hk, rfl, HF, rfl⟩ := hrel
    by_cases hk48 : k < 48
    · have hkt : k < nameTab.length := hk48
      have hc := num_cell hb0 k hkt
      have hd := str_cell hb1 k hkt
      obtain ⟨m, s, hms⟩ : ∃ m s, nameTab[k] = (m, s) := ⟨_, _, rfl⟩
      rw [hms] at hc hd
      simp only [strV] at hd
      have Hms := Lib.hid hms
      clear hms
      have hnm : byName S (m, s) = (s == S) := rfl
      cases hq : s == S
      · rw [hq] at hnm
        have hfin := Lib.hid (find_next nameTab (byName S) k HF.out hkt (by rw [Hms.out]; exact hnm))
        clear hnm HF Hms
        go_wp2
        go_roundw
        case rel => exact ⟨k + 1, by omega, by go_num, hfin, trivial⟩
        case measure => simp [intOf]; omega
      · rw [hq] at hnm
        have hfin : N = some m := by
          have := find_hit nameTab (byName S) k HF.out hkt (by rw [Hms.out]; exact hnm)
          rw [HN.out, errOf, this, Hms.out]; rfl
        clear hnm HN HF Hms
        subst hfin
        go_wp2
        go_ret2
        exact ⟨rfl, hB0⟩
    · have hke : k = 48 := by omega
      subst hke
      have hfin : nameTab.find? (byName S) = none := find_end _ _ 48 HF.out (Nat.le_refl _)
      have hN2 : N = none := by rw [HN.out, errOf, hfin]; rfl
      subst hN2
      clear hfin HN HF
      go_wp2
      go_ret2
      exact ⟨rfl, hB0⟩
end Go.Proofs.Ytnjfghlgknnhmaa
