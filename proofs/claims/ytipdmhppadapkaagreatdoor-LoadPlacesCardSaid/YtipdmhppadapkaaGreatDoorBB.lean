/-
  Parts: WordA WordB WordC ShaA ShaB ShaC ShaD ShaF ShaG ShaH ShaI.
-/
import Derived.Test.YtipdmhppadapkaaGreatDoorBA
import Derived.Laws.BitsAllLaws
import Derived.IntWalk
import Derived.Deep.QuietTactic
import Derived.BigQuiet
import Derived.StillTailTactics
import Derived.Deep.Cut
import Derived.Deep.DeepCutAuto
/-
  Walks: the numbers that are read (word.size, read, Be32 .. Le64; portreeveref01.Number).
-/
namespace Go.Proofs.YtipdmhppadapkaaGreatDoor
open Go.RowKit

theorem size32_any (w : World) : Calls Tryz.prog 138 #[] w fun e w' => e = .returned (.int .i64 4) ∧ w = w' := by
  go_enter Tryz.func138, Tryz.ntmps138
  go_wp2
  go_ret
  exact ⟨rfl, rfl⟩

section
variable (A : Option Addr) (n c : Nat) (p : Int) (low : Bool) (l : List UInt8) (w : World)

set_option maxRecDepth 100000 in
set_option maxHeartbeats 400000 in
theorem read32_in (p : Nat) (h : Rd w w.heap.size 1 A n (bcells l)) (hn : n ≤ 1000000) (hat : p + 4 ≤ n) :
    Calls Tryz.prog 107 #[.slice A n c, .int .i64 p, .bool low] w fun e w' => e = .returned (.tuple #[.int .u32 (readNum l p 4 low : Nat), .bool true]) ∧ w = w' := by
  obtain ⟨LOW, hLOW⟩ : ∃ q : Bool, q = low := ⟨_, rfl⟩
  have HLOW := Lib.hid hLOW; clear hLOW
  cases low
  all_goals
    go_enter Tryz.func107, Tryz.ntmps107
    go_wp2_with (go_at_call 138; refine (size32_any _).mono ?_; rintro e w' ⟨rfl, rfl⟩)
    go_loop [9, 30] (fun x i => ∃ k : Nat, k ≤ 4 ∧ i = .int .i64 k ∧ x = .int .u32 (numOf (byteAt l p 4 LOW) k : Nat)) (fun _ i => 4 - (intOf i).toNat)
    case atStart => exact ⟨0, Nat.zero_le _, rfl, rfl⟩
    case round =>
      obtain ⟨k, hk, rfl, rfl⟩ := hrel
      by_cases hlt : k < 4
      · have hlen : n = l.length := by have := h.len; rw [bcells_length] at this; omega
        obtain ⟨a, rfl, hab, hcs⟩ := h.cells (by omega)
        have c1 := hcs (p + k) _ (bcells_get l _ (by omega))
        have c2 := hcs (p + 3 - k) _ (bcells_get l _ (by omega))
        have HL := Lib.hid hlen; clear hlen hcs h
        go_wp2
        go_round
        case rel => exact ⟨k + 1, by omega, by go_num, by rw [HLOW.out]; exact congrArg _ (u32_round l p 4 k _ hlt rfl)⟩
        case measure => simp [intOf]; omega
      · obtain rfl : k = 4 := by omega
        go_wp2
        go_ret2
        exact ⟨by rw [HLOW.out]; rfl, rfl⟩
set_option maxRecDepth 100000 in
set_option maxHeartbeats 400000 in
theorem read32_any (h : Rd w w.heap.size 1 A n (bcells l)) (hn : n ≤ 1000000) :
    Calls Tryz.prog 107 #[.slice A n c, .int .i64 p, .bool low] w fun e w' => e = .returned (.tuple #[.int .u32 (rdNum l p 4 low : Nat), .bool (rdOk l p 4)]) ∧ w = w' := by
  have hlen : n = l.length := by have := h.len; rw [bcells_length] at this; omega
  by_cases hin : 0 ≤ p ∧ p + 4 ≤ n
  · obtain ⟨q, rfl⟩ := Int.eq_ofNat_of_zero_le hin.1
    refine (read32_in A n c low l w q h hn (by omega)).mono fun e w' ⟨he, hw⟩ => ⟨?_, hw⟩
    rw [he, rdNum, rdOk, if_pos ⟨by omega, by omega⟩, decide_eq_true (by omega)]; rfl
  · have h1 : rdNum l p 4 low = 0 := by rw [rdNum, if_neg (by omega)]
    have h2 : rdOk l p 4 = false := by rw [rdOk, decide_eq_false (by omega)]
    rw [h1, h2]
    clear h1 h2 h
    have HL := Lib.hid hlen; clear hlen
    by_cases h0 : p < 0
    · have hd : decide (p < 0) = true := by simpa using h0
      go_enter Tryz.func107, Tryz.ntmps107
      go_wp2_with (go_at_call 138; refine (size32_any _).mono ?_; rintro e w' ⟨rfl, rfl⟩)
      go_ret2
      exact ⟨rfl, rfl⟩
    · have hd : decide (p < 0) = false := by simpa using h0
      by_cases h8 : n < 4
      · go_enter Tryz.func107, Tryz.ntmps107
        go_wp2_with (go_at_call 138; refine (size32_any _).mono ?_; rintro e w' ⟨rfl, rfl⟩)
        go_ret2
        exact ⟨rfl, rfl⟩
      · have h9 : (n : Int) - 4 < p := by omega
        go_enter Tryz.func107, Tryz.ntmps107
        go_wp2_with (go_at_call 138; refine (size32_any _).mono ?_; rintro e w' ⟨rfl, rfl⟩)
        go_ret2
        exact ⟨rfl, rfl⟩

theorem be32_any (h : Rd w w.heap.size 1 A n (bcells l)) (hn : n ≤ 1000000) :
    Calls Tryz.prog 74 #[.slice A n c, .int .i64 p] w fun e w' => e = .returned (.tuple #[.int .u32 (rdNum l p 4 false : Nat), .bool (rdOk l p 4)]) ∧ w = w' := by
  go_enter Tryz.func74, Tryz.ntmps74
  go_wp2_with (go_at_call 107; refine (read32_any A n c p false l w h hn).mono ?_; rintro e w' ⟨rfl, rfl⟩)
  go_ret2
  exact ⟨rfl, rfl⟩

end
end Go.Proofs.YtipdmhppadapkaaGreatDoor
/-
  Walks: the numbers that are put (word.put, PutBe32 .. PutLe64; portreeveref01.Put).
-/
namespace Go.Proofs.YtipdmhppadapkaaGreatDoor
open Go.RowKit

theorem el8 : Elem Tryz.prog 22 5 (.int .u8 0) 1 1 := Elem.of (by kernel_rfl) (by kernel_rfl) rfl (by omega)
section
variable (A : Option Addr) (n c : Nat) (l : List UInt8) (w : World)

set_option maxRecDepth 100000 in
set_option maxHeartbeats 1000000 in
theorem put32_any (A2 : Option Addr) (m c2 : Nat) (xs : List Nat) (low : Bool) (h : Rd w w.heap.size 1 A n (bcells l)) (hn : n ≤ 1000000)
    (h2 : Rd w w.heap.size 1 A2 m (xs.map fun (x : Nat) => Value.int .u32 (x : Int))) (hm : m ≤ 1000000) :
    Calls Tryz.prog 144 #[.slice A n c, .bool low, .slice A2 m c2] w fun e w' =>
      ∃ A' c', e = .returned (.slice A' (n + 4 * m) c') ∧ w'.ownsRow w.heap.size 5 1 (.slice A' (n + 4 * m) c') (n + 4 * m) (bcells (l ++ putAll xs 4 low)) ∧ Below w.heap.size w w' := by
  go_enter Tryz.func144, Tryz.ntmps144
  go_wp2_with (first
    | (go_at_call 138; refine (size32_any _).mono ?_; rintro e w' ⟨rfl, rfl⟩)
    | (at_make; refine wpList_makeN w el8 rfl _ _ rfl .i64 .i64 _ _ n (n + 4 * m) rfl rfl rfl (by omega) (by omega) (by omega) (by omega) ?_; intro w1 hb1 hs1 hB1)
    | ((with_reducible refine at_copy ?_); refine wpList_copyAt w1 el8.under (by kernel_rfl) rfl _ _ rfl w.heap.size 0 _ hb1 _ n (n + 4 * m) rfl _ _ n c _ rfl (h.belowm hB1 (Nat.le_refl _)) (bcells_one l) n (Nat.min_self n).symm (fun _ => rfl) (by simp [size_madeCells]) ?_; intro w2 hb2 hg2 hs2))
  have hzl : (madeCells (Value.int .u8 0).cells ((n + 4 * m) * 1)).size = n + 4 * m := by simp [size_madeCells]
  have hB2 : Below w.heap.size w w2 := hB1.grown hg2 (by omega) (fun k hk => by cases hk; exact Nat.le_refl _)
  have hO2 : w2.ownsRow w.heap.size 5 1 (.slice (some ⟨w.heap.size, 0, none⟩) n (n + 4 * m)) n (bcells l) := by
    have hlen := h.len
    have := hb2.own (base := w.heap.size) (size := 1) (n := n) (m := n + 4 * m) (Nat.le_refl _) (by simp [splice, hlen, size_madeCells]) (by omega) (by omega)
    have e : (splice (madeCells (Value.int .u8 0).cells ((n + 4 * m) * 1)).toList 0 ((bcells l).take n)).toArray.toList.take (n * 1) = bcells l := by
      simp only [Nat.mul_one] at hlen
      simp [splice, ← hlen]
    rw [e] at this; exact this
  have h2' := h2.below hB2
  clear hB1 hb1 hs1 hb2 hg2 hs2 hzl h
  go_loopw [8, 29] (fun o i wr => ∃ k : Nat, k ≤ m ∧ i = .int .i64 k ∧ ∃ A' c', o = .slice A' (n + 4 * k) c' ∧
      wr.ownsRow w.heap.size 5 1 (.slice A' (n + 4 * k) c') (n + 4 * k) (bcells (l ++ putAll (xs.take k) 4 low)) ∧ Below w.heap.size w wr) (fun _ i _ => m - (intOf i).toNat)
  case atStart => exact ⟨0, Nat.zero_le _, rfl, _, _, rfl, by simpa [putAll] using hO2, hB2⟩
  case round =>
    obtain ⟨k, hk, rfl, A', c', rfl, hO, hB⟩ := hrel
    by_cases hlt : k < m
    · have hxl := h2.len
      rw [List.length_map, Nat.mul_one] at hxl
      obtain ⟨a2, rfl, hab, hcs⟩ := (h2.below hB).cells (by omega)
      have c1 := hcs k (.int .u32 (xs[k]?.getD 0 : Nat)) (by simp [List.getElem?_eq_getElem (show k < xs.length by omega)])
      have HX := Lib.hid hxl; clear hxl hcs
      go_wp2
      go_loopw [8, 34] (fun o i wq => ∃ j : Nat, j ≤ 4 ∧ i = .int .i64 j ∧ ∃ A' c', o = .slice A' (n + 4 * k + j) c' ∧
          wq.ownsRow w.heap.size 5 1 (.slice A' (n + 4 * k + j) c') (n + 4 * k + j) (bcells (l ++ putAll (xs.take k) 4 low ++ (putNum (xs[k]?.getD 0) 4 low).take j)) ∧ Below w.heap.size w wq) (fun _ i _ => 4 - (intOf i).toNat)
      case atStart => exact ⟨0, Nat.zero_le _, rfl, _, _, rfl, by simpa using hO, hB⟩
      case round =>
        obtain ⟨j, hj, rfl, A1, c1', rfl, hO1, hB1⟩ := hrel
        by_cases hjt : j < 4
        · have hsn := putNum_snoc (xs[k]?.getD 0) 4 low j hjt
          have hby := byteOf (xs[k]?.getD 0) (if low then j else 3 - j)
          have HS := Lib.hid hsn
          have HB := Lib.hid hby
          clear hsn hby
          cases low
          all_goals
            go_wp2_with (at_builtin; refine wpList_app1 _ el8 rfl _ _ rfl w.heap.size A1 (n + 4 * k + j) c1' _ rfl hO1 _ rfl rfl (by omega) (by omega) (by have := hB1.size; omega) ?_; intro A3 c3 w3 hO3 hg3 hB3)
            go_roundw
            case rel =>
              refine ⟨j + 1, by omega, by go_num, A3, c3, rfl, ?_, hB1.trans hB3⟩
              rw [HS.out, ← List.append_assoc, bcells_append _ [_]]
              have e := HB.out
              simp only [if_true, if_false, Bool.false_eq_true] at e
              rw [e] at hO3
              exact hO3
            case measure => simp [intOf]; omega
        · obtain rfl : j = 4 := by omega
          go_wp2
          go_roundw
          case rel =>
            refine ⟨k + 1, by omega, by go_num, A1, c1', rfl, ?_, hB1⟩
            rw [putAll_snoc _ _ _ _ (by rw [HX.out]; exact hlt), ← List.append_assoc]
            rw [putNum_all] at hO1
            exact hO1
          case measure => simp [intOf]; omega
    · obtain rfl : k = m := by omega
      go_wp2
      go_ret
      refine ⟨A', c', rfl, ?_, hB⟩
      have hxl := h2.len
      rw [List.length_map, Nat.mul_one] at hxl
      rw [List.take_of_length_le (by omega)] at hO
      exact hO

theorem putBe32_any (A2 : Option Addr) (m c2 : Nat) (xs : List Nat) (h : Rd w w.heap.size 1 A n (bcells l)) (hn : n ≤ 1000000)
    (h2 : Rd w w.heap.size 1 A2 m (xs.map fun (x : Nat) => Value.int .u32 (x : Int))) (hm : m ≤ 1000000) :
    Calls Tryz.prog 120 #[.slice A n c, .slice A2 m c2] w fun e w' =>
      ∃ A' c', e = .returned (.slice A' (n + 4 * m) c') ∧ w'.ownsRow w.heap.size 5 1 (.slice A' (n + 4 * m) c') (n + 4 * m) (bcells (l ++ putAll xs 4 false)) ∧ Below w.heap.size w w' := by
  go_enter Tryz.func120, Tryz.ntmps120
  go_wp2_with (go_at_call 144; refine (put32_any A n c l w A2 m c2 xs false h hn h2 hm).mono ?_; rintro e w' ⟨A', c', rfl, hO, hB⟩)
  go_ret
  exact ⟨A', c', rfl, hO, hB⟩

end
end Go.Proofs.YtipdmhppadapkaaGreatDoor
/-
  Walks: portreeveref01.Number, portreeveref01.Put, word.Cat.
-/
namespace Go.Proofs.YtipdmhppadapkaaGreatDoor
open Go.RowKit

section
variable (A : Option Addr) (n c : Nat) (p : Int) (low : Bool) (l : List UInt8) (w : World)

end

/-- a []byte value with what it reads as -/
structure Bs where
  A : Option Addr
  n : Nat
  c : Nat
  l : List UInt8
def Bs.val (b : Bs) : Value := .slice b.A b.n b.c
def Bs.ok (w : World) (B : Nat) (b : Bs) : Prop := Rd w B 1 b.A b.n (bcells b.l)
def Bs.all (ps : List Bs) : List UInt8 := ps.flatMap (·.l)
def Bs.tot (ps : List Bs) : Nat := (ps.map (·.n)).sum
theorem Bs.tot_take (ps : List Bs) (k : Nat) (b : Bs) (h : ps[k]? = some b) : Bs.tot (ps.take (k + 1)) = Bs.tot (ps.take k) + b.n := by
  obtain ⟨hlt, rfl⟩ := List.getElem?_eq_some_iff.1 h
  rw [List.take_succ_eq_append_getElem hlt]; simp only [Bs.tot, List.map_append, List.sum_append, List.map_cons, List.map_nil, List.sum_cons, List.sum_nil, Nat.add_zero]
theorem Bs.all_take (ps : List Bs) (k : Nat) (b : Bs) (h : ps[k]? = some b) : Bs.all (ps.take (k + 1)) = Bs.all (ps.take k) ++ b.l := by
  obtain ⟨hlt, rfl⟩ := List.getElem?_eq_some_iff.1 h
  rw [List.take_succ_eq_append_getElem hlt]; simp only [Bs.all, List.flatMap_append, List.flatMap_cons, List.flatMap_nil, List.append_nil]
theorem Bs.tot_le (ps : List Bs) (k : Nat) : Bs.tot (ps.take k) ≤ Bs.tot ps := by
  have e : Bs.tot (ps.take k ++ ps.drop k) = Bs.tot (ps.take k) + Bs.tot (ps.drop k) := by simp only [Bs.tot, List.map_append, List.sum_append]
  rw [List.take_append_drop] at e
  omega

set_option maxRecDepth 100000 in
set_option maxHeartbeats 400000 in
theorem cat_any (A : Option Addr) (m c : Nat) (ps : List Bs) (w : World) (h : Rd w w.heap.size 1 A m (ps.map Bs.val)) (hp : ∀ b ∈ ps, b.ok w w.heap.size) (ht : Bs.tot ps ≤ 1000000000) (hm : m ≤ 1000000) :
    Calls Tryz.prog 111 #[.slice A m c] w fun e w' =>
      ∃ A' c', e = .returned (.slice A' (Bs.tot ps) c') ∧ w'.ownsRow w.heap.size 5 1 (.slice A' (Bs.tot ps) c') (Bs.tot ps) (bcells (Bs.all ps)) ∧ Below w.heap.size w w' := by
  have hlen : ps.length = m := by have := h.len; simpa using this
  have HL := Lib.hid hlen; clear hlen
  go_enter Tryz.func111, Tryz.ntmps111
  go_wp2
  go_loop [3, 11] (fun o i => ∃ k : Nat, k ≤ m ∧ i = .int .i64 k ∧ o = .int .i64 (Bs.tot (ps.take k) : Nat)) (fun _ i => m - (intOf i).toNat)
  case atStart => exact ⟨0, Nat.zero_le _, rfl, rfl⟩
  case round =>
    obtain ⟨k, hk, rfl, rfl⟩ := hrel
    by_cases hlt : k < m
    · obtain ⟨a, rfl, hab, hcs⟩ := h.cells (by omega)
      have hkl : k < ps.length := by rw [HL.out]; exact hlt
      obtain ⟨b, hb⟩ : ∃ b, ps[k]? = some b := ⟨_, List.getElem?_eq_getElem hkl⟩
      have c1 : w.cell? (a.add k) = some (.slice b.A b.n b.c) := hcs k _ (by rw [List.getElem?_map, hb]; rfl)
      have ht1 := Bs.tot_take ps k b hb
      have ht2 := Bs.tot_le ps (k + 1)
      have ht3 : Bs.tot (ps.take k) + b.n ≤ Bs.tot ps := by omega
      have H1 := Lib.hid ht1
      have H2 := Lib.hid hb
      clear ht1 hb hcs h ht2
      go_wp2
      go_round
      case rel => exact ⟨k + 1, by omega, by go_num, by rw [H1.out]; go_num⟩
      case measure => simp [intOf]; omega
    · obtain rfl : k = m := by omega
      have hall : ps.take k = ps := List.take_of_length_le (by rw [HL.out]; omega)
      have HA := Lib.hid hall
      rw [hall]
      clear hall
      go_wp2_with (at_make; refine wpList_makeN w el8 rfl _ _ rfl .i64 .i64 _ _ 0 (Bs.tot ps) rfl rfl rfl rfl (by omega) (by omega) (by omega) ?_; intro w1 hb1 hs1 hB1)
      have hO1 := hb1.own (base := w.heap.size) (size := 1) (n := 0) (m := Bs.tot ps) (Nat.le_refl _) (by simp [size_madeCells]) (by omega) (by omega)
      simp only [Nat.zero_mul, List.take_zero] at hO1
      clear hb1 hs1
      go_loopw [6, 24] (fun o i wr => ∃ j : Nat, j ≤ k ∧ i = .int .i64 j ∧ ∃ A' c', o = .slice A' (Bs.tot (ps.take j)) c' ∧
        wr.ownsRow w.heap.size 5 1 (.slice A' (Bs.tot (ps.take j)) c') (Bs.tot (ps.take j)) (bcells (Bs.all (ps.take j))) ∧ Below w.heap.size w wr) (fun _ i _ => k - (intOf i).toNat)
      case atStart => exact ⟨0, Nat.zero_le _, rfl, _, _, rfl, by simpa [Bs.tot, Bs.all, bcells] using hO1, hB1⟩
      case round =>
        obtain ⟨j, hj, rfl, A1, c1', rfl, hO2, hB2⟩ := hrel
        by_cases hjt : j < k
        · obtain ⟨a, rfl, hab, hcs⟩ := (h.below hB2).cells (by omega)
          have hkl : j < ps.length := by rw [HL.out]; exact hjt
          obtain ⟨b, hb⟩ : ∃ b, ps[j]? = some b := ⟨_, List.getElem?_eq_getElem hkl⟩
          have c1 : wr.cell? (a.add j) = some (.slice b.A b.n b.c) := hcs j _ (by rw [List.getElem?_map, hb]; rfl)
          have hbok : b.ok wr w.heap.size := (hp b (List.mem_of_getElem? hb)).below hB2
          have ht1 := Bs.tot_take ps j b hb
          have ha1 := Bs.all_take ps j b hb
          have ht2 := Bs.tot_le ps (j + 1)
          have ht3 : Bs.tot (ps.take j) + b.n ≤ Bs.tot ps := by omega
          have H1 := Lib.hid ht1
          have H2 := Lib.hid ha1
          clear ht1 ha1 hb hcs h ht2
          go_wp2_with (at_builtin; refine wpList_app wr el8 rfl _ _ rfl w.heap.size A1 _ c1' _ rfl hO2 _ b.A b.n b.c _ rfl hbok (bcells_one b.l) (by omega) (by omega) (by have := hB2.size; omega) ?_; intro A3 c3 w3 hO3 hg3 hB3 _)
          go_roundw
          case rel => exact ⟨j + 1, by omega, by go_num, A3, c3, by rw [H1.out], by rw [H1.out, H2.out, bcells_append]; exact hO3, hB2.trans hB3⟩
          case measure => simp [intOf]; omega
        · obtain rfl : j = k := by omega
          rw [HA.out] at hO2
          rw [HA.out]
          go_wp2
          go_ret
          exact ⟨A1, c1', rfl, hO2, hB2⟩
end Go.Proofs.YtipdmhppadapkaaGreatDoor
/-
  SHA-256 in plain Lean: words, the schedule, the rounds, the blocks, the padding; no program in sight.
-/
namespace Go.Proofs.YtipdmhppadapkaaGreatDoor

namespace Sha
abbrev W := BitVec 32
/-- a word's number -/
def u (x : W) : Int := (x.toNat : Int)
theorem u_xor (x y : W) : bits .xor .u32 (u x) (u y) = u (x ^^^ y) := by unfold u; rw [u32_xor_nat _ _ x.isLt y.isLt, BitVec.toNat_xor]
theorem u_and (x y : W) : bits .and .u32 (u x) (u y) = u (x &&& y) := by unfold u; rw [u32_and_nat _ _ x.isLt y.isLt, BitVec.toNat_and]
theorem u_or (x y : W) : bits .or .u32 (u x) (u y) = u (x ||| y) := by unfold u; rw [u32_or_nat _ _ x.isLt y.isLt, BitVec.toNat_or]
theorem u_not (x : W) : bits .xor .u32 4294967295 (u x) = u (~~~x) := by
  have h : (4294967295 : Int) = u (BitVec.allOnes 32) := by unfold u; rw [BitVec.toNat_allOnes]; simp
  rw [h, u_xor, BitVec.allOnes_xor]
theorem u_add (x y : W) : IntKind.u32.wrap (u x + u y) = u (x + y) := by
  unfold u; rw [IntKind.wrap_u32', BitVec.toNat_add]; omega
theorem u_shr (x : W) (n : Nat) : u x / 2 ^ n = u (x >>> n) := by
  unfold u; rw [BitVec.toNat_ushiftRight, Nat.shiftRight_eq_div_pow, Int.natCast_ediv, Int.natCast_pow]; simp
theorem u_shl (x : W) (n : Nat) : IntKind.u32.wrap (u x * 2 ^ n) = u (x <<< n) := by
  have h : ((2 ^ n : Nat) : Int) = (2 : Int) ^ n := by rw [Int.natCast_pow]; rfl
  unfold u
  rw [IntKind.wrap_u32', BitVec.toNat_shiftLeft, Nat.shiftLeft_eq, ← h, ← Int.natCast_mul]
  generalize x.toNat * 2 ^ n = y
  omega
theorem u_add' (x y : W) : (u x + u y) % 4294967296 = u (x + y) := by rw [← u_add, IntKind.wrap_u32']
theorem u_shl' (x : W) (n : Nat) : u x * 2 ^ n % 4294967296 = u (x <<< n) := by rw [← u_shl, IntKind.wrap_u32']
/-- a byte as a word -/
def uc (c : UInt8) : W := BitVec.ofNat 32 c.toNat
theorem u_uc (c : UInt8) : IntKind.u32.wrap (c.toNat : Int) = u (uc c) := by
  have : c.toNat < 256 := c.toNat_lt
  rw [IntWalk.u32_in _ (by omega)]; unfold u uc; rw [BitVec.toNat_ofNat, Nat.mod_eq_of_lt (by omega)]
/-- a word's byte -/
def ob (x : W) : UInt8 := UInt8.ofNat x.toNat
theorem u_ob (x : W) : IntKind.u8.wrap (u x) = ((ob x).toNat : Int) := by
  unfold u ob; rw [IntKind.wrap_u8', UInt8.toNat_ofNat']; omega

def rotr (x : W) (n : Nat) : W := x >>> n ||| x <<< (32 - n)
def lo0 (x : W) : W := rotr x 7 ^^^ rotr x 18 ^^^ x >>> 3
def lo1 (x : W) : W := rotr x 17 ^^^ rotr x 19 ^^^ x >>> 10
def up0 (x : W) : W := rotr x 2 ^^^ rotr x 13 ^^^ rotr x 22
def up1 (x : W) : W := rotr x 6 ^^^ rotr x 11 ^^^ rotr x 25
def ch (e f g : W) : W := (e &&& f) ^^^ (~~~e &&& g)
def maj (a b c : W) : W := (a &&& b) ^^^ (a &&& c) ^^^ (b &&& c)
theorem rotr_alt (x : W) (n : Nat) : x <<< (32 - n) ||| x >>> n = rotr x n := by unfold rotr; rw [BitVec.or_comm]

/-- eight words -/
structure V8 where
  a : W
  b : W
  c : W
  d : W
  e : W
  f : W
  g : W
  h : W
def V8.list (v : V8) : List W := [v.a, v.b, v.c, v.d, v.e, v.f, v.g, v.h]
def V8.add (v x : V8) : V8 := ⟨v.a + x.a, v.b + x.b, v.c + x.c, v.d + x.d, v.e + x.e, v.f + x.f, v.g + x.g, v.h + x.h⟩
def V8.rnd (v : V8) (k w : W) : V8 :=
  ⟨(v.h + up1 v.e + ch v.e v.f v.g + k + w) + (up0 v.a + maj v.a v.b v.c), v.a, v.b, v.c, v.d + (v.h + up1 v.e + ch v.e v.f v.g + k + w), v.e, v.f, v.g⟩
def V8.rnds (v : V8) (K L : List W) : Nat → V8
  | 0 => v
  | i + 1 => (v.rnds K L i).rnd (K[i]?.getD 0) (L[i]?.getD 0)
/-- the word that stands at a place of bytes -/
def word (p : List UInt8) (i : Nat) : W := uc (p[4 * i]?.getD 0) <<< 24 ||| uc (p[4 * i + 1]?.getD 0) <<< 16 ||| uc (p[4 * i + 2]?.getD 0) <<< 8 ||| uc (p[4 * i + 3]?.getD 0)
/-- the next word of a schedule -/
def nextW (l : List W) : W := l[l.length - 16]?.getD 0 + lo0 (l[l.length - 15]?.getD 0) + l[l.length - 7]?.getD 0 + lo1 (l[l.length - 2]?.getD 0)
/-- the first k words of a block's schedule -/
def sched (p : List UInt8) : Nat → List W
  | 0 => []
  | k + 1 => sched p k ++ [if k < 16 then word p k else nextW (sched p k)]
def kTab : List W := [0x428a2f98, 0x71374491, 0xb5c0fbcf, 0xe9b5dba5, 0x3956c25b, 0x59f111f1, 0x923f82a4, 0xab1c5ed5,
  0xd807aa98, 0x12835b01, 0x243185be, 0x550c7dc3, 0x72be5d74, 0x80deb1fe, 0x9bdc06a7, 0xc19bf174,
  0xe49b69c1, 0xefbe4786, 0x0fc19dc6, 0x240ca1cc, 0x2de92c6f, 0x4a7484aa, 0x5cb0a9dc, 0x76f988da,
  0x983e5152, 0xa831c66d, 0xb00327c8, 0xbf597fc7, 0xc6e00bf3, 0xd5a79147, 0x06ca6351, 0x14292967,
  0x27b70a85, 0x2e1b2138, 0x4d2c6dfc, 0x53380d13, 0x650a7354, 0x766a0abb, 0x81c2c92e, 0x92722c85,
  0xa2bfe8a1, 0xa81a664b, 0xc24b8b70, 0xc76c51a3, 0xd192e819, 0xd6990624, 0xf40e3585, 0x106aa070,
  0x19a4c116, 0x1e376c08, 0x2748774c, 0x34b0bcb5, 0x391c0cb3, 0x4ed8aa4a, 0x5b9cca4f, 0x682e6ff3,
  0x748f82ee, 0x78a5636f, 0x84c87814, 0x8cc70208, 0x90befffa, 0xa4506ceb, 0xbef9a3f7, 0xc67178f2]
def h0 : V8 := ⟨0x6a09e667, 0xbb67ae85, 0x3c6ef372, 0xa54ff53a, 0x510e527f, 0x9b05688c, 0x1f83d9ab, 0x5be0cd19⟩
/-- a block taken in -/
def comp (v : V8) (p : List UInt8) : V8 := v.add (v.rnds kTab (sched p 64) 64)
/-- k blocks taken in -/
def eats (v : V8) (l : List UInt8) : Nat → V8
  | 0 => v
  | k + 1 => comp (eats v l k) ((l.drop (64 * k)).take 64)
def padZ (n : Nat) : Nat := (119 - n % 64) % 64
/-- what stands behind n bytes -/
def be64 (n : Nat) : List UInt8 := (List.range 8).map fun i => UInt8.ofNat (n / 256 ^ (7 - i))
def pad (n : Nat) : List UInt8 := 128 :: List.replicate (padZ n) 0 ++ be64 (8 * n % 18446744073709551616)
def outW (x : W) : List UInt8 := [ob (x >>> 24), ob (x >>> 16), ob (x >>> 8), ob x]
def out (v : V8) : List UInt8 := v.list.flatMap outW
/-- the sum of bytes -/
def sum (l : List UInt8) : List UInt8 := out (eats h0 (l ++ pad l.length) ((l.length + (pad l.length).length) / 64))
end Sha
end Go.Proofs.YtipdmhppadapkaaGreatDoor
/-
  Words and bytes as cells; what the walks of SHA-256 ask of them.
-/
namespace Go.Proofs.YtipdmhppadapkaaGreatDoor
open Go.RowKit

namespace Sha
def wcells (l : List W) : List Value := l.map fun x => .int .u32 (u x)
theorem wcells_length (l : List W) : (wcells l).length = l.length := by simp [wcells]
/-- a row of n words of which the first are known -/
def row (n : Nat) (l : List W) : List W := l ++ List.replicate (n - l.length) 0
/-- the cells of a row of words that is being filled -/
def rcells (n : Nat) (l : List W) : Array Value := (wcells (row n l)).toArray
end Sha

theorem grown_setL (w : World) (g k' : Nat) (v : Value) : w.grownBy (w.setCell ⟨g, k', none⟩ v) (some g) := ⟨rfl, rfl, rfl, by simp, fun k _ hk => heap_setCell_other w ⟨g, k', none⟩ k v (fun e => hk (by simp [e]))⟩

section
variable {P : Program} {o : Oper} {a : Act} {w : World}
end

namespace Sha
section
variable {P : Program}
end
end Sha
end Go.Proofs.YtipdmhppadapkaaGreatDoor
/-
  Walks: turns of words (bits.RotateLeft32, sha.mixed, sha.turned; portreeveref03.turn).
-/
namespace Go.Proofs.YtipdmhppadapkaaGreatDoor
open Go.RowKit Sha

theorem u_shr3 (x : W) : u x / (8 : Int) = u (x >>> 3) := u_shr x 3
theorem u_shr10 (x : W) : u x / (1024 : Int) = u (x >>> 10) := u_shr x 10
theorem u_shl24 (x : W) : IntKind.u32.wrap (u x * (16777216 : Int)) = u (x <<< 24) := u_shl x 24
theorem u_shl16 (x : W) : IntKind.u32.wrap (u x * (65536 : Int)) = u (x <<< 16) := u_shl x 16
theorem u_shl8 (x : W) : IntKind.u32.wrap (u x * (256 : Int)) = u (x <<< 8) := u_shl x 8
attribute [local go_sem] u_shr3 u_shr10 u_xor u_and u_or u_not u_add u_add' u_shr u_shl u_shl' rotr_alt
theorem u_notm (x : W) : bits .xor .u32 IntKind.u32.max (u x) = u (~~~x) := u_not x
theorem u_add3' (a b c : W) : (u a + u b + u c) % (4294967296 : Int) = u (a + b + c) := by rw [← u_add', ← u_add', Int.emod_add_emod]
theorem u_add4' (a b c d : W) : (u a + u b + u c + u d) % (4294967296 : Int) = u (a + b + c + d) := by rw [← u_add', ← u_add3', Int.emod_add_emod]
end Go.Proofs.YtipdmhppadapkaaGreatDoor
/-
  Walk: sha's state.block: a block taken in.
-/
namespace Go.Proofs.YtipdmhppadapkaaGreatDoor
open Go.RowKit Sha

attribute [local go_sem] u_uc u_shl24 u_shl16 u_shl8 u_shr3 u_shr10 u_xor u_and u_or u_not u_add u_add' u_shr u_shl u_shl' rotr_alt
end Go.Proofs.YtipdmhppadapkaaGreatDoor
/-
  SHA's state in memory; slices cut ahead; the state's parts.
-/
namespace Go.Proofs.YtipdmhppadapkaaGreatDoor
open Go.RowKit Sha

namespace Sha
/-- what a slice is cut to: k elements less ahead -/
def CutB (A A' : Option Addr) (n k : Nat) : Prop := ∀ W B xs, Rd W B 1 A n xs → Rd W B 1 A' (n - k) (xs.drop k)
section
variable {P : Program} {ops : Array Oper} {rest : List Oper} {o : Oper} {a : Act} {Q : Exit → Act → World → Prop}
end
/-- a state's cells -/
def stCells (v : V8) (sm : List UInt8) (n : Nat) : List Value := wcells v.list ++ (bcells sm ++ [.int .u64 (n : Int)])
end Sha
/-- the state of SHA at a block: the bytes L were taken in -/
def ShaSt (G : Nat) (L : List UInt8) (w : World) : Prop :=
  ∃ sm : List UInt8, sm.length = 64 ∧ sm.take (L.length % 64) = L.drop (64 * (L.length / 64)) ∧ Blk w G 156 (stCells (eats h0 L (L.length / 64)) sm L.length).toArray
/-- bytes that stay what they are while the block G is written -/
def FarB (G : Nat) (w : World) (A : Option Addr) (n : Nat) (b : List UInt8) : Prop := ∀ w', Chg (fun k => k = G) w w' → Rd w' w'.heap.size 1 A n (bcells b)
theorem FarB.chg {G : Nat} {w w1 : World} {A : Option Addr} {n : Nat} {b : List UInt8} (h : FarB G w A n b) (c : Chg (fun k => k = G) w w1) : FarB G w1 A n b := fun w' c' => h w' (c.trans c')
theorem FarB.cut {G : Nat} {w : World} {A A' : Option Addr} {n k : Nat} {b : List UInt8} (h : FarB G w A n b) (c : CutB A A' n k) : FarB G w A' (n - k) (b.drop k) := fun w' c' => by
  have := c _ _ _ (h w' c')
  rwa [show (bcells b).drop k = bcells (b.drop k) by simp [bcells, List.map_drop]] at this
theorem FarB.of_below {G : Nat} {w : World} {A : Option Addr} {n : Nat} {b : List UInt8} (h : Rd w G 1 A n (bcells b)) (hG : G ≤ w.heap.size) : FarB G w A n b := fun w' c => by
  have := h.chg c hG (fun k hk => by rw [hk]; exact Nat.le_refl _)
  exact this.more (by have := c.size; omega)
theorem FarB.rd {G : Nat} {w : World} {A : Option Addr} {n : Nat} {b : List UInt8} (h : FarB G w A n b) : Rd w w.heap.size 1 A n (bcells b) := h w (Chg.refl _ _)
theorem FarB.front {G : Nat} {w : World} {A : Option Addr} {n : Nat} {b : List UInt8} (h : FarB G w A n b) (k : Nat) (hk : k ≤ n) : FarB G w A k (b.take k) := fun w' c => by
  have := (h w' c).front (k := k) hk
  rwa [Nat.mul_one, show (bcells b).take k = bcells (b.take k) by simp [bcells, List.map_take]] at this
/-- a row of the call's own behind G stays while G is written -/
theorem FarB.of_own {G base : Nat} {w : World} {e : TypeId} {A : Option Addr} {n c : Nat} {b : List UInt8} (h : w.ownsRow base e 1 (.slice A n c) n (bcells b)) (hG : G < base) : FarB G w A n b := fun w' ch =>
  Rd.of_own (own_chg h ch (fun k hk e => by have := (own_some h hk).1; have e : k = G := e; omega))
theorem ShaSt.below {G B : Nat} {L : List UInt8} {w w' : World} (h : ShaSt G L w) (hb : Below B w w') (hG : G < B) : ShaSt G L w' := by
  obtain ⟨sm, h1, h2, h3⟩ := h
  exact ⟨sm, h1, h2, h3.below hb hG⟩
theorem ShaSt.lt {G : Nat} {L : List UInt8} {w : World} (h : ShaSt G L w) : G < w.heap.size := by
  obtain ⟨sm, _, _, h3⟩ := h
  exact h3.lt
end Go.Proofs.YtipdmhppadapkaaGreatDoor
/-
  Walk: sha's state.write: bytes taken in.
-/
namespace Go.Proofs.YtipdmhppadapkaaGreatDoor
open Go.RowKit Sha

section
variable {P : Program} {ops : Array Oper} {rest : List Oper} {a : Act} {w : World} {Q : Exit → Act → World → Prop} {dst : Option Tmp} {ty : TypeId} {pos : String} {aft : Array Edge} {gd : Option (Nat × Bool)}
end

end Go.Proofs.YtipdmhppadapkaaGreatDoor
/-
  Walks: sha.Pad, sha's state.end.
-/
namespace Go.Proofs.YtipdmhppadapkaaGreatDoor
open Go.RowKit Sha

theorem u_shr24 (x : W) : u x / (16777216 : Int) = u (x >>> 24) := u_shr x 24
theorem u_shr16 (x : W) : u x / (65536 : Int) = u (x >>> 16) := u_shr x 16
theorem u_shr8 (x : W) : u x / (256 : Int) = u (x >>> 8) := u_shr x 8
theorem u_ob' (x : W) : u x % (256 : Int) = ((ob x).toNat : Int) := by rw [← u_ob, IntKind.wrap_u8']
attribute [local go_sem] u_shr24 u_shr16 u_shr8 u_ob u_ob'
def znode : List UInt8 := List.replicate 32 0
def zn : Array Value := (bcells znode).toArray
end Go.Proofs.YtipdmhppadapkaaGreatDoor
/-
  Walk: sha.Sum of any parts.
-/
namespace Go.Proofs.YtipdmhppadapkaaGreatDoor
open Go.RowKit Sha

/-- a block with these cells, of whatever type -/
def BlkT (w : World) (g : Nat) (cs : Array Value) : Prop := ∃ t, Blk w g t cs
/-- SHA's tables lie as they were laid -/
structure Tabs (w : World) : Prop where
  first : BlkT w 0 (wcells h0.list).toArray
  rounds : BlkT w 1 (wcells kTab).toArray
theorem BlkT.lt {w : World} {g : Nat} {cs : Array Value} (h : BlkT w g cs) : g < w.heap.size := by obtain ⟨t, h⟩ := h; exact h.lt
theorem BlkT.chg {Z : Nat → Prop} {w w' : World} {g : Nat} {cs : Array Value} (h : BlkT w g cs) (c : Chg Z w w') (hg : ¬ Z g) : BlkT w' g cs := by obtain ⟨t, h⟩ := h; exact ⟨t, h.chg c hg⟩
theorem BlkT.below {B : Nat} {w w' : World} {g : Nat} {cs : Array Value} (h : BlkT w g cs) (c : Below B w w') (hg : g < B) : BlkT w' g cs := by obtain ⟨t, h⟩ := h; exact ⟨t, h.below c hg⟩
theorem Tabs.below {w w' : World} (h : Tabs w) (hb : Below w.heap.size w w') : Tabs w' := ⟨h.first.below hb h.first.lt, h.rounds.below hb h.rounds.lt⟩
theorem Tabs.ext {w w' : World} (h : Tabs w) (hb : Ext w w') : Tabs w' := h.below hb
theorem Tabs.drew {w : World} (h : Tabs w) : Tabs w.drew := ⟨h.first, h.rounds⟩
theorem Tabs.alloc {w : World} (h : Tabs w) (o : Obj) : Tabs (w.alloc o) := by
  obtain ⟨⟨t1, h1⟩, ⟨t2, h2⟩⟩ := h
  exact ⟨⟨t1, h1.alloc o⟩, ⟨t2, h2.alloc o⟩⟩
theorem Tabs.lt {w : World} (h : Tabs w) : 1 < w.heap.size := h.rounds.lt
theorem Tabs.under {B : Nat} {w w' : World} (h : Tabs w) (hb : Below B w w') (hB : 1 < B) (hB1 : 0 < B) : Tabs w' := ⟨h.first.below hb hB1, h.rounds.below hb hB⟩
end Go.Proofs.YtipdmhppadapkaaGreatDoor
