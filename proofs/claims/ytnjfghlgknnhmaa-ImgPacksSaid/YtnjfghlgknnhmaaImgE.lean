/-
  Walks: the reference's writer of a name; portreeveref14.PutHeader.
-/
import Derived.Test.YtnjfghlgknnhmaaImgD
namespace Go.Proofs.Ytnjfghlgknnhmaa
open Go.RowKit

/-- the first k bytes of a name that is filled up -/
def nmPad (s : List UInt8) (k : Nat) : List UInt8 := (List.range k).map fun i => s[i]?.getD 0
theorem nmPad_length (s : List UInt8) (k : Nat) : (nmPad s k).length = k := by simp [nmPad]
theorem nmPad_succ (s : List UInt8) (k : Nat) : nmPad s (k + 1) = nmPad s k ++ [s[k]?.getD 0] := by simp [nmPad, List.range_succ]
theorem nmPad_16 (s : List UInt8) (h : s.length ≤ 16) : nmPad s 16 = pad16 s := by
  apply List.ext_getElem?
  intro i
  by_cases hi : i < 16
  · rw [nmPad, List.getElem?_map, List.getElem?_range hi, pad16]
    simp only [Option.map_some]
    by_cases h2 : i < s.length
    · rw [List.getElem?_append_left h2, List.getElem?_eq_getElem h2]; rfl
    · rw [List.getElem?_append_right (by omega), List.getElem?_replicate, if_pos (by omega), List.getElem?_eq_none (by omega)]; rfl
  · rw [List.getElem?_eq_none (by rw [nmPad_length]; omega), List.getElem?_eq_none (by rw [pad16_length s h]; omega)]

set_option maxRecDepth 100000 in
set_option maxHeartbeats 2000000 in
theorem wname_any (g : Nat) (L : List UInt8) (hL : L.length ≤ 100000) (s : ByteArray) (hs : s.size ≤ 9223372036854775807) (w : World) (hS : WrSt w g L 0) :
    Calls Try.prog 60 #[.pointer (some ⟨g, 0, none⟩), .string s] w fun e w' => (∃ u, e = .returned u) ∧ WrSt w' g (L ++ nmPad s.data.toList 16) (if nmOk s.data.toList = false then 143 else 0) ∧ Below g w w' := by
  obtain ⟨y, hy⟩ : ∃ y : Int, y = (if nmOk s.data.toList = false then 143 else 0) := ⟨_, rfl⟩
  rw [← hy]
  have HY := Lib.hid hy
  clear hy
  obtain ⟨A, c, hb, hO⟩ := hS
  have hlt := hb.lt
  go_enter Try.func60, Try.ntmps60
  go_wp2_with fail
  refine (rName_any s hs w).mono ?_
  rintro e w' ⟨rfl, hw⟩
  have hw := hw.symm
  subst hw
  go_wp2_with fail
  refine (wmust_any g _ 0 (nmOk s.data.toList) 143 w hb).mono ?_
  rintro e w1 ⟨⟨u, rfl⟩, hb1, hg1, hs1⟩
  have hY1 : (if nmOk s.data.toList = false ∧ (0 : Int) = 0 then 143 else 0) = y := by rw [HY.out]; simp
  rw [hY1] at hb1
  have hO1 := own_chg hO (Chg.grown (Z := fun b => b = g) hg1 (by rintro k h; cases h; rfl)) (fun k hk e => by have := (hO.lt k hk).1; have e2 : k = g := e; omega)
  have hB1 : Below g w w1 := (Below.refl _ _).grown hg1 (by omega) (fun k hk => by cases hk; exact Nat.le_refl _)
  have h0 : WrSt w1 g (L ++ nmPad s.data.toList 0) y := by
    rw [show nmPad s.data.toList 0 = [] from rfl, List.append_nil]
    exact ⟨A, c, hb1, hO1⟩
  clear hb1 hO1 hg1 hs1 hY1 hb hO
  go_wp2
  go_loopw [4] (fun i wr => ∃ k : Nat, k ≤ 16 ∧ i = .int .i64 k ∧ WrSt wr g (L ++ nmPad s.data.toList k) y ∧ Below g w wr) (fun i _ => 16 - (intOf i).toNat)
  case atStart => exact ⟨0, Nat.zero_le _, rfl, h0, hB1⟩
  case round =>
    obtain ⟨k, hk, rfl, ⟨A2, c2, hb2, hO2⟩, hB2⟩ := hrel
    by_cases hlt : k < 16
    · have hll : (L ++ nmPad s.data.toList k).length = L.length + k := by rw [List.length_append, nmPad_length]
      rw [hll] at hb2 hO2
      have hc2 : wr.cell? ⟨g, 0, none⟩ = some (.slice A2 (L.length + k) c2) := (hb2.cell 0).trans rfl
      have hlt2 := hb2.lt
      have HLL := Lib.hid hll
      clear hll
      obtain ⟨ch, hch⟩ : ∃ ch : UInt8, ch = s.data.toList[k]?.getD 0 := ⟨_, rfl⟩
      have hsu : Hid (nmPad s.data.toList (k + 1) = nmPad s.data.toList k ++ [ch]) := Lib.hid (by rw [nmPad_succ, hch])
      by_cases hks : k < s.size
      · have hch2 : s[k] = ch := by
          rw [hch, Array.getElem?_toList, Array.getElem?_eq_getElem (by exact hks)]; rfl
        have HCH := Lib.hid hch2
        clear hch hch2
        go_wp2_with (at_builtin; refine wpList_app1 wr el8 rfl _ _ rfl (g + 1) A2 (L.length + k) c2 _ rfl hO2 (.int .u8 (s[k].toNat : Int)) rfl rfl (by omega) (by omega) (by omega) ?_; intro A3 c3 w3 hO3 hg3 hB3; have hb3 := hb2.below hB3 (Nat.lt_succ_self g); have hc3 : w3.cell? ⟨g, 0, none⟩ = some (.slice A2 (L.length + k) c2) := (hb3.cell 0).trans rfl; have hf3 : w3.frozen? ⟨g, 0, none⟩ = false := hb3.frozen 0)
        have hset := hb3.set_ 0 (.slice A3 (L.length + k + 1) c3)
        have hgr := grown_set w3 g 0 (.slice A3 (L.length + k + 1) c3)
        have hO4 := own_chg hO3 (Chg.grown (Z := fun b => b = g) hgr (by rintro k h; cases h; rfl)) (fun k hk e => by have := (hO3.lt k hk).1; have e2 : k = g := e; omega)
        have hB4 := hB2.trans ((hB3.mono (Nat.le_succ g)).setCell (p := ⟨g, 0, none⟩) (Nat.le_refl _) (.slice A3 (L.length + k + 1) c3))
        have hl4 : (L ++ nmPad s.data.toList (k + 1)).length = L.length + k + 1 := by rw [List.length_append, nmPad_length]; omega
        go_roundw
        case rel =>
          refine ⟨k + 1, by omega, by go_num, ⟨A3, c3, ?_, ?_⟩, hB4⟩
          · rw [hl4]; exact hset
          · rw [hl4, hsu.out, ← List.append_assoc, bcells_append]
            have : bcells [ch] = [.int .u8 (s[k].toNat : Int)] := by rw [HCH.out]; rfl
            rw [this]; exact hO4
        case measure => simp [intOf]; omega
      · have hch2 : ch = 0 := by rw [hch, List.getElem?_eq_none (by simpa using hks)]; rfl
        have HCH := Lib.hid hch2
        clear hch hch2
        go_wp2_with (at_builtin; refine wpList_app1 wr el8 rfl _ _ rfl (g + 1) A2 (L.length + k) c2 _ rfl hO2 (.int .u8 0) rfl rfl (by omega) (by omega) (by omega) ?_; intro A3 c3 w3 hO3 hg3 hB3; have hb3 := hb2.below hB3 (Nat.lt_succ_self g); have hc3 : w3.cell? ⟨g, 0, none⟩ = some (.slice A2 (L.length + k) c2) := (hb3.cell 0).trans rfl; have hf3 : w3.frozen? ⟨g, 0, none⟩ = false := hb3.frozen 0)
        have hset := hb3.set_ 0 (.slice A3 (L.length + k + 1) c3)
        have hgr := grown_set w3 g 0 (.slice A3 (L.length + k + 1) c3)
        have hO4 := own_chg hO3 (Chg.grown (Z := fun b => b = g) hgr (by rintro k h; cases h; rfl)) (fun k hk e => by have := (hO3.lt k hk).1; have e2 : k = g := e; omega)
        have hB4 := hB2.trans ((hB3.mono (Nat.le_succ g)).setCell (p := ⟨g, 0, none⟩) (Nat.le_refl _) (.slice A3 (L.length + k + 1) c3))
        have hl4 : (L ++ nmPad s.data.toList (k + 1)).length = L.length + k + 1 := by rw [List.length_append, nmPad_length]; omega
        go_roundw
        case rel =>
          refine ⟨k + 1, by omega, by go_num, ⟨A3, c3, ?_, ?_⟩, hB4⟩
          · rw [hl4]; exact hset
          · rw [hl4, hsu.out, ← List.append_assoc, bcells_append]
            have : bcells [ch] = [.int .u8 0] := by rw [HCH.out]; rfl
            rw [this]; exact hO4
        case measure => simp [intOf]; omega
    · obtain rfl : k = 16 := by omega
      go_wp2
      go_end0
      exact ⟨⟨_, rfl⟩, ⟨A2, c2, hb2, hO2⟩, hB2⟩
end Go.Proofs.Ytnjfghlgknnhmaa
