/-
  Walks: portreeveref01.Number, portreeveref01.Put, word.Cat.
-/
import Derived.Test.YtjfmgoickokbjaaWordB
namespace Go.Proofs.Ytjfmgoickokbjaa
open Go.RowKit

section
variable (A : Option Addr) (n c : Nat) (p : Int) (low : Bool) (l : List UInt8) (w : World)

theorem u64_round' (l : List UInt8) (p n k : Nat) (low : Bool) (hk : k < 8) :
    bits .or .u64 (IntKind.u64.wrap ((numOf (byteAt l p n low) k : Nat) * 256)) (IntKind.u64.wrap (byteAt l p n low k : Nat)) = ((numOf (byteAt l p n low) (k + 1) : Nat) : Int) :=
  u64_shl_or _ _ (numOf_le (byteAt_lt _ _ _ _) (by omega)) (byteAt_lt _ _ _ _ _)

set_option maxRecDepth 100000 in
set_option maxHeartbeats 400000 in
theorem number_in (p s : Nat) (h : Rd w w.heap.size 1 A n (bcells l)) (hn : n ≤ 1000000) (hs1 : 1 ≤ s) (hs : s ≤ 8) (hat : p + s ≤ n) :
    Calls Try.prog 23 #[.slice A n c, .int .i64 p, .int .i64 s, .bool low] w fun e w' => e = .returned (.tuple #[.int .u64 (readNum l p s low : Nat), .bool true]) ∧ w = w' := by
  obtain ⟨LOW, hLOW⟩ : ∃ q : Bool, q = low := ⟨_, rfl⟩
  have HLOW := Lib.hid hLOW; clear hLOW
  cases low
  all_goals
    go_enter Try.func23, Try.ntmps23
    go_wp2
    go_loop [10, 11] (fun x i => ∃ k : Nat, k ≤ s ∧ i = .int .i64 k ∧ x = .int .u64 (numOf (byteAt l p s LOW) k : Nat)) (fun _ i => s - (intOf i).toNat)
    case atStart => exact ⟨0, Nat.zero_le _, rfl, rfl⟩
    case round =>
      obtain ⟨k, hk, rfl, rfl⟩ := hrel
      by_cases hlt : k < s
      · have hlen : n = l.length := by have := h.len; rw [bcells_length] at this; omega
        obtain ⟨a, rfl, hab, hcs⟩ := h.cells (by omega)
        have c1 := hcs (p + k) _ (bcells_get l _ (by omega))
        have c2 := hcs (p + s - 1 - k) _ (bcells_get l _ (by omega))
        have HL := Lib.hid hlen; clear hlen hcs h
        go_wp2
        go_round
        case rel => exact ⟨k + 1, by omega, by go_num, by rw [HLOW.out]; exact congrArg _ (u64_round' l p s k _ (by omega))⟩
        case measure => simp [intOf]; omega
      · obtain rfl : k = s := by omega
        go_wp2
        go_ret2
        exact ⟨by rw [HLOW.out]; rfl, rfl⟩

set_option maxRecDepth 100000 in
set_option maxHeartbeats 400000 in
theorem number_any (s : Nat) (h : Rd w w.heap.size 1 A n (bcells l)) (hn : n ≤ 1000000) (hs1 : 1 ≤ s) (hs : s ≤ 8) :
    Calls Try.prog 23 #[.slice A n c, .int .i64 p, .int .i64 s, .bool low] w fun e w' => e = .returned (.tuple #[.int .u64 (rdNum l p s low : Nat), .bool (rdOk l p s)]) ∧ w = w' := by
  have hlen : n = l.length := by have := h.len; rw [bcells_length] at this; omega
  by_cases hin : 0 ≤ p ∧ p + s ≤ n
  · obtain ⟨q, rfl⟩ := Int.eq_ofNat_of_zero_le hin.1
    refine (number_in A n c low l w q s h hn hs1 hs (by omega)).mono fun e w' ⟨he, hw⟩ => ⟨?_, hw⟩
    rw [he, rdNum, rdOk, if_pos ⟨by omega, by omega⟩, decide_eq_true (by omega)]; rfl
  · have h1 : rdNum l p s low = 0 := by rw [rdNum, if_neg (by omega)]
    have h2 : rdOk l p s = false := by rw [rdOk, decide_eq_false (by omega)]
    rw [h1, h2]
    clear h1 h2 h
    have HL := Lib.hid hlen; clear hlen
    by_cases h0 : p < 0
    · have hd : decide (p < 0) = true := by simpa using h0
      go_enter Try.func23, Try.ntmps23
      go_wp2
      go_ret2
      exact ⟨rfl, rfl⟩
    · have hd : decide (p < 0) = false := by simpa using h0
      by_cases h8 : n < s
      · go_enter Try.func23, Try.ntmps23
        go_wp2
        go_ret2
        exact ⟨rfl, rfl⟩
      · have h9 : (n : Int) - s < p := by omega
        go_enter Try.func23, Try.ntmps23
        go_wp2
        go_ret2
        exact ⟨rfl, rfl⟩

set_option maxRecDepth 100000 in
set_option maxHeartbeats 400000 in
theorem rput_any (x s : Nat) (h : Rd w w.heap.size 1 A n (bcells l)) (hn : n ≤ 1000000) (hs : s ≤ 8) :
    Calls Try.prog 61 #[.slice A n c, .int .u64 x, .int .i64 s, .bool low] w fun e w' =>
      ∃ A' c', e = .returned (.slice A' (n + s) c') ∧ w'.ownsRow w.heap.size 5 1 (.slice A' (n + s) c') (n + s) (bcells (l ++ putNum x s low)) ∧ Below w.heap.size w w' := by
  go_enter Try.func61, Try.ntmps61
  go_wp2_with (at_builtin; refine wpList_app w el8 rfl _ _ rfl w.heap.size none 0 0 [] rfl (World.ownsRow_nil _ _ _ _) _ A n c _ rfl h (bcells_one l) (by omega) (by omega) (Nat.le_refl _) ?_; intro A1 c1 w1 hO hg hB _)
  rw [List.nil_append] at hO
  simp only [Nat.zero_add] at hO ⊢
  clear hg h
  go_loopw [9, 10] (fun o i wr => ∃ k : Nat, k ≤ s ∧ i = .int .i64 k ∧ ∃ A' c', o = .slice A' (n + k) c' ∧
      wr.ownsRow w.heap.size 5 1 (.slice A' (n + k) c') (n + k) (bcells (l ++ (putNum x s low).take k)) ∧ Below w.heap.size w wr) (fun _ i _ => s - (intOf i).toNat)
  case atStart => exact ⟨0, Nat.zero_le _, rfl, _, _, rfl, by simpa using hO, hB⟩
  case round =>
    obtain ⟨j, hj, rfl, A1, c1', rfl, hO1, hB1⟩ := hrel
    by_cases hjt : j < s
    · have hsn := putNum_snoc x s low j hjt
      have hby := byteOf x (if low then j else s - 1 - j)
      have HS := Lib.hid hsn
      have HB := Lib.hid hby
      clear hsn hby
      cases low
      all_goals
        go_wp2_with (at_builtin; refine wpList_app1 _ el8 rfl _ _ rfl w.heap.size A1 (n + j) c1' _ rfl hO1 _ rfl rfl (by omega) (by omega) (by have := hB1.size; omega) ?_; intro A3 c3 w3 hO3 hg3 hB3)
        go_roundw
        case rel =>
          refine ⟨j + 1, by omega, by go_num, A3, c3, rfl, ?_, hB1.trans hB3⟩
          rw [HS.out, ← List.append_assoc, bcells_append _ [_]]
          have e := HB.out
          simp only [if_true, if_false, Bool.false_eq_true] at e
          rw [e] at hO3
          exact hO3
        case measure => simp [intOf]; omega
    · obtain rfl : j = s := by omega
      go_wp2
      go_ret
      refine ⟨A1, c1', rfl, ?_, hB1⟩
      rw [putNum_all] at hO1
      exact hO1
end

/-- a []byte value with what it reads as -/
structure Bs where
  A : Option Addr
  n : Nat
  c : Nat
  l : List UInt8
def Bs.val (b : Bs) : Value := .slice b.A b.n b.c
def Bs.ok (w : World) (B : Nat) (b : Bs) : Prop := Rd w B 1 b.A b.n (bcells b.l)
def Bs.all (ps : List Bs) : List UInt8 := ps.flatMap (·.l)
def Bs.tot (ps : List Bs) : Nat := (ps.map (·.n)).sum
theorem Bs.tot_take (ps : List Bs) (k : Nat) (b : Bs) (h : ps[k]? = some b) : Bs.tot (ps.take (k + 1)) = Bs.tot (ps.take k) + b.n := by
  obtain ⟨hlt, rfl⟩ := List.getElem?_eq_some_iff.1 h
  rw [List.take_succ_eq_append_getElem hlt]; simp only [Bs.tot, List.map_append, List.sum_append, List.map_cons, List.map_nil, List.sum_cons, List.sum_nil, Nat.add_zero]
theorem Bs.all_take (ps : List Bs) (k : Nat) (b : Bs) (h : ps[k]? = some b) : Bs.all (ps.take (k + 1)) = Bs.all (ps.take k) ++ b.l := by
  obtain ⟨hlt, rfl⟩ := List.getElem?_eq_some_iff.1 h
  rw [List.take_succ_eq_append_getElem hlt]; simp only [Bs.all, List.flatMap_append, List.flatMap_cons, List.flatMap_nil, List.append_nil]
theorem Bs.tot_le (ps : List Bs) (k : Nat) : Bs.tot (ps.take k) ≤ Bs.tot ps := by
  have e : Bs.tot (ps.take k ++ ps.drop k) = Bs.tot (ps.take k) + Bs.tot (ps.drop k) := by simp only [Bs.tot, List.map_append, List.sum_append]
  rw [List.take_append_drop] at e
  omega

end Go.Proofs.Ytjfmgoickokbjaa
